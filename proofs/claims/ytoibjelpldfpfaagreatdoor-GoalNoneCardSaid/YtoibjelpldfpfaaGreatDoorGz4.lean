/- Part 4 of a proof: the texts G0 MirX S1 S2 S3, one behind the other. -/
import Derived.Test.YtoibjelpldfpfaaGreatDoorGz3
import Derived.Test.YtoibjelpldfpfaaGreatDoorRows
import Derived.Sort.OwnSorted
import Derived.Lib.AppendZeros
import Derived.Lib.Join
namespace Go.Proofs.YtoibjelpldfpfaaGreatDoor.Rf
open Go Go.RowKit Go.Sort Go.Proofs.YtoibjelpldfpfaaGreatDoor.Mir
structure Var where
  key : List UInt8
  val : List UInt8
structure Port where
  host : List UInt8
  out : Int
  in_ : Int
  proto : List UInt8
structure Mount where
  source : List UInt8
  target : List UInt8
  readOnly : Bool
structure Dep where
  service : List UInt8
  cond : Int
  restart : Bool
  required : Bool
structure Check where
  test : List UInt8
  every : Int
  start : Int
  retries : Int
structure Service where
  name : List UInt8
  image : List UInt8
  command : List (List UInt8)
  env : List Var
  labels : List Var
  ports : List Port
  mounts : List Mount
  nets : List (List UInt8)
  deps : List Dep
  replicas : Int
  health : Check
  restart : Int
  tries : Int
  cpus : Int
  mem : Int
structure Project where
  name : List UInt8
  services : List Service
  nets : List (List UInt8)
  vols : List (List UInt8)
structure Spec where
  name : List UInt8
  project : List UInt8
  service : List UInt8
  number : Int
  hash : List UInt8
  nets : List (List UInt8)
  vols : List (List UInt8)
  health : Check
  restart : Int
  tries : Int
structure Node where
  kind : Int
  text : List UInt8
  keys : List (List UInt8)
  kids : List Node
structure edges where
  l : List (List UInt8)
structure budget where
  left : Int
structure fields where
  node : Node
structure Arr185 where
  e0 : List UInt8
  e1 : List UInt8
  e2 : List UInt8
  e3 : List UInt8
structure State where
  e0 : Int
  e1 : Int
  e2 : Int
  e3 : Int
  e4 : Int
  e5 : Int
  e6 : Int
  e7 : Int
structure St225 where
  long : Int
  name : List UInt8
structure Arr226 where
  e0 : St225
  e1 : St225
  e2 : St225
  e3 : St225
structure Arr227 where
  e0 : Int
  e1 : Int
  e2 : Int
  e3 : Int
structure form where
  n : Node
  bad : Bool
structure field where
  n : Node
  left : Int
  bad : Bool
inductive Ty where
  | str | int | bool | l_str | api_Var | l_api_Var | api_Port | l_api_Port | api_Mount | l_api_Mount | api_Dep | l_api_Dep | api_Check | api_Service | l_api_Service | api_Project | api_Spec | byte | api_Errno | l_api_Node | api_Node | graph_edges | fn64 | node_budget | load_fields | fn67 | fn191 | fn164 | a4_str | iter_Seq2_string__string | l_byte | u32 | sha_State | l_int | st225 | a4_st225 | a4_byte | fn230 | norm_form | fn241 | fn118 | l_l_str | l_l_api_Node | u64 | a8_byte | iter_Seq_string | fn45 | schema_former | norm_field | u6489
  deriving DecidableEq
abbrev Den : Ty → Type
  | .str => List UInt8
  | .int => Int
  | .bool => Bool
  | .l_str => List (List UInt8)
  | .api_Var => Var
  | .l_api_Var => List Var
  | .api_Port => Port
  | .l_api_Port => List Port
  | .api_Mount => Mount
  | .l_api_Mount => List Mount
  | .api_Dep => Dep
  | .l_api_Dep => List Dep
  | .api_Check => Check
  | .api_Service => Service
  | .l_api_Service => List Service
  | .api_Project => Project
  | .api_Spec => Spec
  | .byte => Int
  | .api_Errno => Int
  | .l_api_Node => List Node
  | .api_Node => Node
  | .graph_edges => edges
  | .fn64 => Nat
  | .node_budget => budget
  | .load_fields => fields
  | .fn67 => Nat
  | .fn191 => Nat
  | .fn164 => Nat
  | .a4_str => Arr185
  | .iter_Seq2_string__string => Nat
  | .l_byte => List Int
  | .u32 => Int
  | .sha_State => State
  | .l_int => List Int
  | .st225 => St225
  | .a4_st225 => Arr226
  | .a4_byte => Arr227
  | .fn230 => Nat
  | .norm_form => form
  | .fn241 => Nat
  | .fn118 => Nat
  | .l_l_str => List (List (List UInt8))
  | .l_l_api_Node => List (List Node)
  | .u64 => Int
  | .a8_byte => State
  | .iter_Seq_string => Nat
  | .fn45 => Nat
  | .schema_former => Nat
  | .norm_field => field
  | .u6489 => Int
def tid : Ty → TypeId
  | .str => 9
  | .int => 3
  | .bool => 4
  | .l_str => 23
  | .api_Var => 91
  | .l_api_Var => 29
  | .api_Port => 93
  | .l_api_Port => 30
  | .api_Mount => 95
  | .l_api_Mount => 31
  | .api_Dep => 63
  | .l_api_Dep => 32
  | .api_Check => 34
  | .api_Service => 36
  | .l_api_Service => 22
  | .api_Project => 25
  | .api_Spec => 40
  | .byte => 5
  | .api_Errno => 68
  | .l_api_Node => 96
  | .api_Node => 98
  | .graph_edges => 107
  | .fn64 => 64
  | .node_budget => 158
  | .load_fields => 166
  | .fn67 => 67
  | .fn191 => 191
  | .fn164 => 164
  | .a4_str => 185
  | .iter_Seq2_string__string => 172
  | .l_byte => 73
  | .u32 => 123
  | .sha_State => 211
  | .l_int => 212
  | .st225 => 225
  | .a4_st225 => 226
  | .a4_byte => 227
  | .fn230 => 230
  | .norm_form => 232
  | .fn241 => 241
  | .fn118 => 118
  | .l_l_str => 268
  | .l_l_api_Node => 270
  | .u64 => 72
  | .a8_byte => 251
  | .iter_Seq_string => 245
  | .fn45 => 45
  | .schema_former => 257
  | .norm_field => 309
  | .u6489 => 89
def code : TypeId → Option Ty
  | 9 => some .str
  | 3 => some .int
  | 4 => some .bool
  | 23 => some .l_str
  | 91 => some .api_Var
  | 29 => some .l_api_Var
  | 93 => some .api_Port
  | 30 => some .l_api_Port
  | 95 => some .api_Mount
  | 31 => some .l_api_Mount
  | 63 => some .api_Dep
  | 32 => some .l_api_Dep
  | 34 => some .api_Check
  | 36 => some .api_Service
  | 22 => some .l_api_Service
  | 25 => some .api_Project
  | 40 => some .api_Spec
  | 5 => some .byte
  | 68 => some .api_Errno
  | 96 => some .l_api_Node
  | 98 => some .api_Node
  | 107 => some .graph_edges
  | 64 => some .fn64
  | 158 => some .node_budget
  | 166 => some .load_fields
  | 67 => some .fn67
  | 191 => some .fn191
  | 164 => some .fn164
  | 185 => some .a4_str
  | 172 => some .iter_Seq2_string__string
  | 73 => some .l_byte
  | 123 => some .u32
  | 211 => some .sha_State
  | 212 => some .l_int
  | 225 => some .st225
  | 226 => some .a4_st225
  | 227 => some .a4_byte
  | 230 => some .fn230
  | 232 => some .norm_form
  | 241 => some .fn241
  | 118 => some .fn118
  | 268 => some .l_l_str
  | 270 => some .l_l_api_Node
  | 72 => some .u64
  | 251 => some .a8_byte
  | 245 => some .iter_Seq_string
  | 45 => some .fn45
  | 257 => some .schema_former
  | 309 => some .norm_field
  | 89 => some .u6489
  | _ => none
def agg : Ty → Bool
  | .str => false
  | .int => false
  | .bool => false
  | .l_str => false
  | .api_Var => true
  | .l_api_Var => false
  | .api_Port => true
  | .l_api_Port => false
  | .api_Mount => true
  | .l_api_Mount => false
  | .api_Dep => true
  | .l_api_Dep => false
  | .api_Check => true
  | .api_Service => true
  | .l_api_Service => false
  | .api_Project => true
  | .api_Spec => true
  | .byte => false
  | .api_Errno => false
  | .l_api_Node => false
  | .api_Node => true
  | .graph_edges => true
  | .fn64 => false
  | .node_budget => true
  | .load_fields => true
  | .fn67 => false
  | .fn191 => false
  | .fn164 => false
  | .a4_str => true
  | .iter_Seq2_string__string => false
  | .l_byte => false
  | .u32 => false
  | .sha_State => true
  | .l_int => false
  | .st225 => true
  | .a4_st225 => true
  | .a4_byte => true
  | .fn230 => false
  | .norm_form => true
  | .fn241 => false
  | .fn118 => false
  | .l_l_str => false
  | .l_l_api_Node => false
  | .u64 => false
  | .a8_byte => true
  | .iter_Seq_string => false
  | .fn45 => false
  | .schema_former => false
  | .norm_field => true
  | .u6489 => false
def size : Ty → Nat
  | .str => 1
  | .int => 1
  | .bool => 1
  | .l_str => 1
  | .api_Var => 2
  | .l_api_Var => 1
  | .api_Port => 4
  | .l_api_Port => 1
  | .api_Mount => 3
  | .l_api_Mount => 1
  | .api_Dep => 4
  | .l_api_Dep => 1
  | .api_Check => 4
  | .api_Service => 18
  | .l_api_Service => 1
  | .api_Project => 4
  | .api_Spec => 13
  | .byte => 1
  | .api_Errno => 1
  | .l_api_Node => 1
  | .api_Node => 4
  | .graph_edges => 1
  | .fn64 => 1
  | .node_budget => 1
  | .load_fields => 4
  | .fn67 => 1
  | .fn191 => 1
  | .fn164 => 1
  | .a4_str => 4
  | .iter_Seq2_string__string => 1
  | .l_byte => 1
  | .u32 => 1
  | .sha_State => 8
  | .l_int => 1
  | .st225 => 2
  | .a4_st225 => 8
  | .a4_byte => 4
  | .fn230 => 1
  | .norm_form => 5
  | .fn241 => 1
  | .fn118 => 1
  | .l_l_str => 1
  | .l_l_api_Node => 1
  | .u64 => 1
  | .a8_byte => 8
  | .iter_Seq_string => 1
  | .fn45 => 1
  | .schema_former => 1
  | .norm_field => 6
  | .u6489 => 1
def bytes : Ty → Nat
  | .str => 16
  | .int => 8
  | .bool => 1
  | .l_str => 24
  | .api_Var => 32
  | .l_api_Var => 24
  | .api_Port => 48
  | .l_api_Port => 24
  | .api_Mount => 40
  | .l_api_Mount => 24
  | .api_Dep => 32
  | .l_api_Dep => 24
  | .api_Check => 40
  | .api_Service => 280
  | .l_api_Service => 24
  | .api_Project => 88
  | .api_Spec => 176
  | .byte => 1
  | .api_Errno => 8
  | .l_api_Node => 24
  | .api_Node => 72
  | .graph_edges => 24
  | .fn64 => 8
  | .node_budget => 8
  | .load_fields => 72
  | .fn67 => 8
  | .fn191 => 8
  | .fn164 => 8
  | .a4_str => 64
  | .iter_Seq2_string__string => 8
  | .l_byte => 24
  | .u32 => 4
  | .sha_State => 32
  | .l_int => 24
  | .st225 => 24
  | .a4_st225 => 96
  | .a4_byte => 4
  | .fn230 => 8
  | .norm_form => 80
  | .fn241 => 8
  | .fn118 => 8
  | .l_l_str => 24
  | .l_l_api_Node => 24
  | .u64 => 8
  | .a8_byte => 8
  | .iter_Seq_string => 8
  | .fn45 => 8
  | .schema_former => 8
  | .norm_field => 88
  | .u6489 => 8
def cells : (t : Ty) → Den t → List (DVal Den)
  | .str, x => [.str x]
  | .int, x => [.int .i64 x]
  | .bool, x => [.bool x]
  | .l_str, x => [.slice .str x]
  | .api_Var, x => [.str x.key, .str x.val]
  | .l_api_Var, x => [.slice .api_Var x]
  | .api_Port, x => [.str x.host, .int .i64 x.out, .int .i64 x.in_, .str x.proto]
  | .l_api_Port, x => [.slice .api_Port x]
  | .api_Mount, x => [.str x.source, .str x.target, .bool x.readOnly]
  | .l_api_Mount, x => [.slice .api_Mount x]
  | .api_Dep, x => [.str x.service, .int .i64 x.cond, .bool x.restart, .bool x.required]
  | .l_api_Dep, x => [.slice .api_Dep x]
  | .api_Check, x => [.str x.test, .int .i64 x.every, .int .i64 x.start, .int .i64 x.retries]
  | .api_Service, x => [.str x.name, .str x.image, .slice .str x.command, .slice .api_Var x.env, .slice .api_Var x.labels, .slice .api_Port x.ports, .slice .api_Mount x.mounts, .slice .str x.nets, .slice .api_Dep x.deps, .int .i64 x.replicas, .str x.health.test, .int .i64 x.health.every, .int .i64 x.health.start, .int .i64 x.health.retries, .int .i64 x.restart, .int .i64 x.tries, .int .i64 x.cpus, .int .i64 x.mem]
  | .l_api_Service, x => [.slice .api_Service x]
  | .api_Project, x => [.str x.name, .slice .api_Service x.services, .slice .str x.nets, .slice .str x.vols]
  | .api_Spec, x => [.str x.name, .str x.project, .str x.service, .int .i64 x.number, .str x.hash, .slice .str x.nets, .slice .str x.vols, .str x.health.test, .int .i64 x.health.every, .int .i64 x.health.start, .int .i64 x.health.retries, .int .i64 x.restart, .int .i64 x.tries]
  | .byte, x => [.int .u8 x]
  | .api_Errno, x => [.int .i64 x]
  | .l_api_Node, x => [.slice .api_Node x]
  | .api_Node, x => [.int .i64 x.kind, .str x.text, .slice .str x.keys, .slice .api_Node x.kids]
  | .graph_edges, x => [.slice .str x.l]
  | .fn64, x => [.raw (.func (.func x) #[] #[])]
  | .node_budget, x => [.int .i64 x.left]
  | .load_fields, x => [.int .i64 x.node.kind, .str x.node.text, .slice .str x.node.keys, .slice .api_Node x.node.kids]
  | .fn67, x => [.raw (.func (.func x) #[] #[])]
  | .fn191, x => [.raw (.func (.func x) #[] #[])]
  | .fn164, x => [.raw (.func (.func x) #[] #[])]
  | .a4_str, x => [.str x.e0, .str x.e1, .str x.e2, .str x.e3]
  | .iter_Seq2_string__string, x => [.raw (.func (.func x) #[] #[])]
  | .l_byte, x => [.slice .byte x]
  | .u32, x => [.int .u32 x]
  | .sha_State, x => [.int .u32 x.e0, .int .u32 x.e1, .int .u32 x.e2, .int .u32 x.e3, .int .u32 x.e4, .int .u32 x.e5, .int .u32 x.e6, .int .u32 x.e7]
  | .l_int, x => [.slice .int x]
  | .st225, x => [.int .i64 x.long, .str x.name]
  | .a4_st225, x => [.int .i64 x.e0.long, .str x.e0.name, .int .i64 x.e1.long, .str x.e1.name, .int .i64 x.e2.long, .str x.e2.name, .int .i64 x.e3.long, .str x.e3.name]
  | .a4_byte, x => [.int .u8 x.e0, .int .u8 x.e1, .int .u8 x.e2, .int .u8 x.e3]
  | .fn230, x => [.raw (.func (.func x) #[] #[])]
  | .norm_form, x => [.int .i64 x.n.kind, .str x.n.text, .slice .str x.n.keys, .slice .api_Node x.n.kids, .bool x.bad]
  | .fn241, x => [.raw (.func (.func x) #[] #[])]
  | .fn118, x => [.raw (.func (.func x) #[] #[])]
  | .l_l_str, x => [.slice .l_str x]
  | .l_l_api_Node, x => [.slice .l_api_Node x]
  | .u64, x => [.int .u64 x]
  | .a8_byte, x => [.int .u8 x.e0, .int .u8 x.e1, .int .u8 x.e2, .int .u8 x.e3, .int .u8 x.e4, .int .u8 x.e5, .int .u8 x.e6, .int .u8 x.e7]
  | .iter_Seq_string, x => [.raw (.func (.func x) #[] #[])]
  | .fn45, x => [.raw (.func (.func x) #[] #[])]
  | .schema_former, x => [.raw (.func (.func x) #[] #[])]
  | .norm_field, x => [.int .i64 x.n.kind, .str x.n.text, .slice .str x.n.keys, .slice .api_Node x.n.kids, .int .i64 x.left, .bool x.bad]
  | .u6489, x => [.int .u64 x]
def dec : DecidableEq Ty := inferInstance
def fd_str : List (DVal Den) → Option (Den .str)
  | [c] => dStr c
  | _ => none
def fd_int : List (DVal Den) → Option (Den .int)
  | [c] => dInt .i64 c
  | _ => none
def fd_bool : List (DVal Den) → Option (Den .bool)
  | [c] => dBl c
  | _ => none
def fd_l_str : List (DVal Den) → Option (Den .l_str)
  | [c] => dSl dec .str c
  | _ => none
def fd_api_Var : List (DVal Den) → Option (Den .api_Var)
  | [c0, c1] => (dStr c0).bind fun y0 => (dStr c1).bind fun y1 => some (⟨y0, y1⟩ : Var)
  | _ => none
def fd_l_api_Var : List (DVal Den) → Option (Den .l_api_Var)
  | [c] => dSl dec .api_Var c
  | _ => none
def fd_api_Port : List (DVal Den) → Option (Den .api_Port)
  | [c0, c1, c2, c3] => (dStr c0).bind fun y0 => (dInt .i64 c1).bind fun y1 => (dInt .i64 c2).bind fun y2 => (dStr c3).bind fun y3 => some (⟨y0, y1, y2, y3⟩ : Port)
  | _ => none
def fd_l_api_Port : List (DVal Den) → Option (Den .l_api_Port)
  | [c] => dSl dec .api_Port c
  | _ => none
def fd_api_Mount : List (DVal Den) → Option (Den .api_Mount)
  | [c0, c1, c2] => (dStr c0).bind fun y0 => (dStr c1).bind fun y1 => (dBl c2).bind fun y2 => some (⟨y0, y1, y2⟩ : Mount)
  | _ => none
def fd_l_api_Mount : List (DVal Den) → Option (Den .l_api_Mount)
  | [c] => dSl dec .api_Mount c
  | _ => none
def fd_api_Dep : List (DVal Den) → Option (Den .api_Dep)
  | [c0, c1, c2, c3] => (dStr c0).bind fun y0 => (dInt .i64 c1).bind fun y1 => (dBl c2).bind fun y2 => (dBl c3).bind fun y3 => some (⟨y0, y1, y2, y3⟩ : Dep)
  | _ => none
def fd_l_api_Dep : List (DVal Den) → Option (Den .l_api_Dep)
  | [c] => dSl dec .api_Dep c
  | _ => none
def fd_api_Check : List (DVal Den) → Option (Den .api_Check)
  | [c0, c1, c2, c3] => (dStr c0).bind fun y0 => (dInt .i64 c1).bind fun y1 => (dInt .i64 c2).bind fun y2 => (dInt .i64 c3).bind fun y3 => some (⟨y0, y1, y2, y3⟩ : Check)
  | _ => none
def fd_api_Service : List (DVal Den) → Option (Den .api_Service)
  | [c0, c1, c2, c3, c4, c5, c6, c7, c8, c9, c10, c11, c12, c13, c14, c15, c16, c17] => (dStr c0).bind fun y0 => (dStr c1).bind fun y1 => (dSl dec .str c2).bind fun y2 => (dSl dec .api_Var c3).bind fun y3 => (dSl dec .api_Var c4).bind fun y4 => (dSl dec .api_Port c5).bind fun y5 => (dSl dec .api_Mount c6).bind fun y6 => (dSl dec .str c7).bind fun y7 => (dSl dec .api_Dep c8).bind fun y8 => (dInt .i64 c9).bind fun y9 => (dStr c10).bind fun y10 => (dInt .i64 c11).bind fun y11 => (dInt .i64 c12).bind fun y12 => (dInt .i64 c13).bind fun y13 => (dInt .i64 c14).bind fun y14 => (dInt .i64 c15).bind fun y15 => (dInt .i64 c16).bind fun y16 => (dInt .i64 c17).bind fun y17 => some (⟨y0, y1, y2, y3, y4, y5, y6, y7, y8, y9, (⟨y10, y11, y12, y13⟩ : Check), y14, y15, y16, y17⟩ : Service)
  | _ => none
def fd_l_api_Service : List (DVal Den) → Option (Den .l_api_Service)
  | [c] => dSl dec .api_Service c
  | _ => none
def fd_api_Project : List (DVal Den) → Option (Den .api_Project)
  | [c0, c1, c2, c3] => (dStr c0).bind fun y0 => (dSl dec .api_Service c1).bind fun y1 => (dSl dec .str c2).bind fun y2 => (dSl dec .str c3).bind fun y3 => some (⟨y0, y1, y2, y3⟩ : Project)
  | _ => none
def fd_api_Spec : List (DVal Den) → Option (Den .api_Spec)
  | [c0, c1, c2, c3, c4, c5, c6, c7, c8, c9, c10, c11, c12] => (dStr c0).bind fun y0 => (dStr c1).bind fun y1 => (dStr c2).bind fun y2 => (dInt .i64 c3).bind fun y3 => (dStr c4).bind fun y4 => (dSl dec .str c5).bind fun y5 => (dSl dec .str c6).bind fun y6 => (dStr c7).bind fun y7 => (dInt .i64 c8).bind fun y8 => (dInt .i64 c9).bind fun y9 => (dInt .i64 c10).bind fun y10 => (dInt .i64 c11).bind fun y11 => (dInt .i64 c12).bind fun y12 => some (⟨y0, y1, y2, y3, y4, y5, y6, (⟨y7, y8, y9, y10⟩ : Check), y11, y12⟩ : Spec)
  | _ => none
def fd_byte : List (DVal Den) → Option (Den .byte)
  | [c] => dInt .u8 c
  | _ => none
def fd_api_Errno : List (DVal Den) → Option (Den .api_Errno)
  | [c] => dInt .i64 c
  | _ => none
def fd_l_api_Node : List (DVal Den) → Option (Den .l_api_Node)
  | [c] => dSl dec .api_Node c
  | _ => none
def fd_api_Node : List (DVal Den) → Option (Den .api_Node)
  | [c0, c1, c2, c3] => (dInt .i64 c0).bind fun y0 => (dStr c1).bind fun y1 => (dSl dec .str c2).bind fun y2 => (dSl dec .api_Node c3).bind fun y3 => some (⟨y0, y1, y2, y3⟩ : Node)
  | _ => none
def fd_graph_edges : List (DVal Den) → Option (Den .graph_edges)
  | [c0] => (dSl dec .str c0).bind fun y0 => some (⟨y0⟩ : edges)
  | _ => none
def fd_fn64 : List (DVal Den) → Option (Den .fn64)
  | [c] => dFn c
  | _ => none
def fd_node_budget : List (DVal Den) → Option (Den .node_budget)
  | [c0] => (dInt .i64 c0).bind fun y0 => some (⟨y0⟩ : budget)
  | _ => none
def fd_load_fields : List (DVal Den) → Option (Den .load_fields)
  | [c0, c1, c2, c3] => (dInt .i64 c0).bind fun y0 => (dStr c1).bind fun y1 => (dSl dec .str c2).bind fun y2 => (dSl dec .api_Node c3).bind fun y3 => some (⟨(⟨y0, y1, y2, y3⟩ : Node)⟩ : fields)
  | _ => none
def fd_fn67 : List (DVal Den) → Option (Den .fn67)
  | [c] => dFn c
  | _ => none
def fd_fn191 : List (DVal Den) → Option (Den .fn191)
  | [c] => dFn c
  | _ => none
def fd_fn164 : List (DVal Den) → Option (Den .fn164)
  | [c] => dFn c
  | _ => none
def fd_a4_str : List (DVal Den) → Option (Den .a4_str)
  | [c0, c1, c2, c3] => (dStr c0).bind fun y0 => (dStr c1).bind fun y1 => (dStr c2).bind fun y2 => (dStr c3).bind fun y3 => some (⟨y0, y1, y2, y3⟩ : Arr185)
  | _ => none
def fd_iter_Seq2_string__string : List (DVal Den) → Option (Den .iter_Seq2_string__string)
  | [c] => dFn c
  | _ => none
def fd_l_byte : List (DVal Den) → Option (Den .l_byte)
  | [c] => dSl dec .byte c
  | _ => none
def fd_u32 : List (DVal Den) → Option (Den .u32)
  | [c] => dInt .u32 c
  | _ => none
def fd_sha_State : List (DVal Den) → Option (Den .sha_State)
  | [c0, c1, c2, c3, c4, c5, c6, c7] => (dInt .u32 c0).bind fun y0 => (dInt .u32 c1).bind fun y1 => (dInt .u32 c2).bind fun y2 => (dInt .u32 c3).bind fun y3 => (dInt .u32 c4).bind fun y4 => (dInt .u32 c5).bind fun y5 => (dInt .u32 c6).bind fun y6 => (dInt .u32 c7).bind fun y7 => some (⟨y0, y1, y2, y3, y4, y5, y6, y7⟩ : State)
  | _ => none
def fd_l_int : List (DVal Den) → Option (Den .l_int)
  | [c] => dSl dec .int c
  | _ => none
def fd_st225 : List (DVal Den) → Option (Den .st225)
  | [c0, c1] => (dInt .i64 c0).bind fun y0 => (dStr c1).bind fun y1 => some (⟨y0, y1⟩ : St225)
  | _ => none
def fd_a4_st225 : List (DVal Den) → Option (Den .a4_st225)
  | [c0, c1, c2, c3, c4, c5, c6, c7] => (dInt .i64 c0).bind fun y0 => (dStr c1).bind fun y1 => (dInt .i64 c2).bind fun y2 => (dStr c3).bind fun y3 => (dInt .i64 c4).bind fun y4 => (dStr c5).bind fun y5 => (dInt .i64 c6).bind fun y6 => (dStr c7).bind fun y7 => some (⟨(⟨y0, y1⟩ : St225), (⟨y2, y3⟩ : St225), (⟨y4, y5⟩ : St225), (⟨y6, y7⟩ : St225)⟩ : Arr226)
  | _ => none
def fd_a4_byte : List (DVal Den) → Option (Den .a4_byte)
  | [c0, c1, c2, c3] => (dInt .u8 c0).bind fun y0 => (dInt .u8 c1).bind fun y1 => (dInt .u8 c2).bind fun y2 => (dInt .u8 c3).bind fun y3 => some (⟨y0, y1, y2, y3⟩ : Arr227)
  | _ => none
def fd_fn230 : List (DVal Den) → Option (Den .fn230)
  | [c] => dFn c
  | _ => none
def fd_norm_form : List (DVal Den) → Option (Den .norm_form)
  | [c0, c1, c2, c3, c4] => (dInt .i64 c0).bind fun y0 => (dStr c1).bind fun y1 => (dSl dec .str c2).bind fun y2 => (dSl dec .api_Node c3).bind fun y3 => (dBl c4).bind fun y4 => some (⟨(⟨y0, y1, y2, y3⟩ : Node), y4⟩ : form)
  | _ => none
def fd_fn241 : List (DVal Den) → Option (Den .fn241)
  | [c] => dFn c
  | _ => none
def fd_fn118 : List (DVal Den) → Option (Den .fn118)
  | [c] => dFn c
  | _ => none
def fd_l_l_str : List (DVal Den) → Option (Den .l_l_str)
  | [c] => dSl dec .l_str c
  | _ => none
def fd_l_l_api_Node : List (DVal Den) → Option (Den .l_l_api_Node)
  | [c] => dSl dec .l_api_Node c
  | _ => none
def fd_u64 : List (DVal Den) → Option (Den .u64)
  | [c] => dInt .u64 c
  | _ => none
def fd_a8_byte : List (DVal Den) → Option (Den .a8_byte)
  | [c0, c1, c2, c3, c4, c5, c6, c7] => (dInt .u8 c0).bind fun y0 => (dInt .u8 c1).bind fun y1 => (dInt .u8 c2).bind fun y2 => (dInt .u8 c3).bind fun y3 => (dInt .u8 c4).bind fun y4 => (dInt .u8 c5).bind fun y5 => (dInt .u8 c6).bind fun y6 => (dInt .u8 c7).bind fun y7 => some (⟨y0, y1, y2, y3, y4, y5, y6, y7⟩ : State)
  | _ => none
def fd_iter_Seq_string : List (DVal Den) → Option (Den .iter_Seq_string)
  | [c] => dFn c
  | _ => none
def fd_fn45 : List (DVal Den) → Option (Den .fn45)
  | [c] => dFn c
  | _ => none
def fd_schema_former : List (DVal Den) → Option (Den .schema_former)
  | [c] => dFn c
  | _ => none
def fd_norm_field : List (DVal Den) → Option (Den .norm_field)
  | [c0, c1, c2, c3, c4, c5] => (dInt .i64 c0).bind fun y0 => (dStr c1).bind fun y1 => (dSl dec .str c2).bind fun y2 => (dSl dec .api_Node c3).bind fun y3 => (dInt .i64 c4).bind fun y4 => (dBl c5).bind fun y5 => some (⟨(⟨y0, y1, y2, y3⟩ : Node), y4, y5⟩ : field)
  | _ => none
def fd_u6489 : List (DVal Den) → Option (Den .u6489)
  | [c] => dInt .u64 c
  | _ => none
def fold : (t : Ty) → List (DVal Den) → Option (Den t)
  | .str => fd_str
  | .int => fd_int
  | .bool => fd_bool
  | .l_str => fd_l_str
  | .api_Var => fd_api_Var
  | .l_api_Var => fd_l_api_Var
  | .api_Port => fd_api_Port
  | .l_api_Port => fd_l_api_Port
  | .api_Mount => fd_api_Mount
  | .l_api_Mount => fd_l_api_Mount
  | .api_Dep => fd_api_Dep
  | .l_api_Dep => fd_l_api_Dep
  | .api_Check => fd_api_Check
  | .api_Service => fd_api_Service
  | .l_api_Service => fd_l_api_Service
  | .api_Project => fd_api_Project
  | .api_Spec => fd_api_Spec
  | .byte => fd_byte
  | .api_Errno => fd_api_Errno
  | .l_api_Node => fd_l_api_Node
  | .api_Node => fd_api_Node
  | .graph_edges => fd_graph_edges
  | .fn64 => fd_fn64
  | .node_budget => fd_node_budget
  | .load_fields => fd_load_fields
  | .fn67 => fd_fn67
  | .fn191 => fd_fn191
  | .fn164 => fd_fn164
  | .a4_str => fd_a4_str
  | .iter_Seq2_string__string => fd_iter_Seq2_string__string
  | .l_byte => fd_l_byte
  | .u32 => fd_u32
  | .sha_State => fd_sha_State
  | .l_int => fd_l_int
  | .st225 => fd_st225
  | .a4_st225 => fd_a4_st225
  | .a4_byte => fd_a4_byte
  | .fn230 => fd_fn230
  | .norm_form => fd_norm_form
  | .fn241 => fd_fn241
  | .fn118 => fd_fn118
  | .l_l_str => fd_l_l_str
  | .l_l_api_Node => fd_l_l_api_Node
  | .u64 => fd_u64
  | .a8_byte => fd_a8_byte
  | .iter_Seq_string => fd_iter_Seq_string
  | .fn45 => fd_fn45
  | .schema_former => fd_schema_former
  | .norm_field => fd_norm_field
  | .u6489 => fd_u6489
def dflt : (t : Ty) → Den t
  | .str => []
  | .int => (0 : Int)
  | .bool => false
  | .l_str => []
  | .api_Var => ⟨[], []⟩
  | .l_api_Var => []
  | .api_Port => ⟨[], (0 : Int), (0 : Int), []⟩
  | .l_api_Port => []
  | .api_Mount => ⟨[], [], false⟩
  | .l_api_Mount => []
  | .api_Dep => ⟨[], (0 : Int), false, false⟩
  | .l_api_Dep => []
  | .api_Check => ⟨[], (0 : Int), (0 : Int), (0 : Int)⟩
  | .api_Service => ⟨[], [], [], [], [], [], [], [], [], (0 : Int), ⟨[], (0 : Int), (0 : Int), (0 : Int)⟩, (0 : Int), (0 : Int), (0 : Int), (0 : Int)⟩
  | .l_api_Service => []
  | .api_Project => ⟨[], [], [], []⟩
  | .api_Spec => ⟨[], [], [], (0 : Int), [], [], [], ⟨[], (0 : Int), (0 : Int), (0 : Int)⟩, (0 : Int), (0 : Int)⟩
  | .byte => (0 : Int)
  | .api_Errno => (0 : Int)
  | .l_api_Node => []
  | .api_Node => ⟨(0 : Int), [], [], []⟩
  | .graph_edges => ⟨[]⟩
  | .fn64 => (0 : Nat)
  | .node_budget => ⟨(0 : Int)⟩
  | .load_fields => ⟨⟨(0 : Int), [], [], []⟩⟩
  | .fn67 => (0 : Nat)
  | .fn191 => (0 : Nat)
  | .fn164 => (0 : Nat)
  | .a4_str => ⟨[], [], [], []⟩
  | .iter_Seq2_string__string => (0 : Nat)
  | .l_byte => []
  | .u32 => (0 : Int)
  | .sha_State => ⟨(0 : Int), (0 : Int), (0 : Int), (0 : Int), (0 : Int), (0 : Int), (0 : Int), (0 : Int)⟩
  | .l_int => []
  | .st225 => ⟨(0 : Int), []⟩
  | .a4_st225 => ⟨⟨(0 : Int), []⟩, ⟨(0 : Int), []⟩, ⟨(0 : Int), []⟩, ⟨(0 : Int), []⟩⟩
  | .a4_byte => ⟨(0 : Int), (0 : Int), (0 : Int), (0 : Int)⟩
  | .fn230 => (0 : Nat)
  | .norm_form => ⟨⟨(0 : Int), [], [], []⟩, false⟩
  | .fn241 => (0 : Nat)
  | .fn118 => (0 : Nat)
  | .l_l_str => []
  | .l_l_api_Node => []
  | .u64 => (0 : Int)
  | .a8_byte => ⟨(0 : Int), (0 : Int), (0 : Int), (0 : Int), (0 : Int), (0 : Int), (0 : Int), (0 : Int)⟩
  | .iter_Seq_string => (0 : Nat)
  | .fn45 => (0 : Nat)
  | .schema_former => (0 : Nat)
  | .norm_field => ⟨⟨(0 : Int), [], [], []⟩, (0 : Int), false⟩
  | .u6489 => (0 : Int)
def byteT : (t : Ty) → Option (Den t → Int)
  | .byte => some fun x => x
  | _ => none
theorem byte_ok : ∀ t f, byteT t = some f → ∀ x, cells t x = [.int .u8 (f x)] := by
  intro t f h x
  cases t <;> first | (cases h; rfl) | cases h
def byteU : (t : Ty) → Option (Int → Den t)
  | .byte => some fun x => x
  | _ => none
theorem byteU_ok : ∀ t g, byteU t = some g → ∀ n, cells t (g n) = [.int .u8 n] := by
  intro t g h n
  cases t <;> first | (cases h; rfl) | cases h
theorem fd_str_ok : ∀ cs x, fd_str cs = some x → CsLe cs (cells .str x) := by
  intro cs x h
  match cs, h with
  | [c], h => exact ⟨dStr_le h, trivial⟩
theorem fd_int_ok : ∀ cs x, fd_int cs = some x → CsLe cs (cells .int x) := by
  intro cs x h
  match cs, h with
  | [c], h => exact ⟨dInt_le h, trivial⟩
theorem fd_bool_ok : ∀ cs x, fd_bool cs = some x → CsLe cs (cells .bool x) := by
  intro cs x h
  match cs, h with
  | [c], h => exact ⟨dBl_le h, trivial⟩
theorem fd_l_str_ok : ∀ cs x, fd_l_str cs = some x → CsLe cs (cells .l_str x) := by
  intro cs x h
  match cs, h with
  | [c], h => exact ⟨dSl_le h, trivial⟩
theorem fd_api_Var_ok : ∀ cs x, fd_api_Var cs = some x → CsLe cs (cells .api_Var x) := by
  intro cs x h
  match cs, h with
  | [c0, c1], h =>
    unfold fd_api_Var at h
    obtain ⟨y0, h0, h⟩ := Option.bind_eq_some_iff.1 h
    obtain ⟨y1, h1, h⟩ := Option.bind_eq_some_iff.1 h
    cases h
    exact ⟨dStr_le h0, dStr_le h1, trivial⟩
theorem fd_l_api_Var_ok : ∀ cs x, fd_l_api_Var cs = some x → CsLe cs (cells .l_api_Var x) := by
  intro cs x h
  match cs, h with
  | [c], h => exact ⟨dSl_le h, trivial⟩
theorem fd_api_Port_ok : ∀ cs x, fd_api_Port cs = some x → CsLe cs (cells .api_Port x) := by
  intro cs x h
  match cs, h with
  | [c0, c1, c2, c3], h =>
    unfold fd_api_Port at h
    obtain ⟨y0, h0, h⟩ := Option.bind_eq_some_iff.1 h
    obtain ⟨y1, h1, h⟩ := Option.bind_eq_some_iff.1 h
    obtain ⟨y2, h2, h⟩ := Option.bind_eq_some_iff.1 h
    obtain ⟨y3, h3, h⟩ := Option.bind_eq_some_iff.1 h
    cases h
    exact ⟨dStr_le h0, dInt_le h1, dInt_le h2, dStr_le h3, trivial⟩
theorem fd_l_api_Port_ok : ∀ cs x, fd_l_api_Port cs = some x → CsLe cs (cells .l_api_Port x) := by
  intro cs x h
  match cs, h with
  | [c], h => exact ⟨dSl_le h, trivial⟩
theorem fd_api_Mount_ok : ∀ cs x, fd_api_Mount cs = some x → CsLe cs (cells .api_Mount x) := by
  intro cs x h
  match cs, h with
  | [c0, c1, c2], h =>
    unfold fd_api_Mount at h
    obtain ⟨y0, h0, h⟩ := Option.bind_eq_some_iff.1 h
    obtain ⟨y1, h1, h⟩ := Option.bind_eq_some_iff.1 h
    obtain ⟨y2, h2, h⟩ := Option.bind_eq_some_iff.1 h
    cases h
    exact ⟨dStr_le h0, dStr_le h1, dBl_le h2, trivial⟩
theorem fd_l_api_Mount_ok : ∀ cs x, fd_l_api_Mount cs = some x → CsLe cs (cells .l_api_Mount x) := by
  intro cs x h
  match cs, h with
  | [c], h => exact ⟨dSl_le h, trivial⟩
theorem fd_api_Dep_ok : ∀ cs x, fd_api_Dep cs = some x → CsLe cs (cells .api_Dep x) := by
  intro cs x h
  match cs, h with
  | [c0, c1, c2, c3], h =>
    unfold fd_api_Dep at h
    obtain ⟨y0, h0, h⟩ := Option.bind_eq_some_iff.1 h
    obtain ⟨y1, h1, h⟩ := Option.bind_eq_some_iff.1 h
    obtain ⟨y2, h2, h⟩ := Option.bind_eq_some_iff.1 h
    obtain ⟨y3, h3, h⟩ := Option.bind_eq_some_iff.1 h
    cases h
    exact ⟨dStr_le h0, dInt_le h1, dBl_le h2, dBl_le h3, trivial⟩
theorem fd_l_api_Dep_ok : ∀ cs x, fd_l_api_Dep cs = some x → CsLe cs (cells .l_api_Dep x) := by
  intro cs x h
  match cs, h with
  | [c], h => exact ⟨dSl_le h, trivial⟩
theorem fd_api_Check_ok : ∀ cs x, fd_api_Check cs = some x → CsLe cs (cells .api_Check x) := by
  intro cs x h
  match cs, h with
  | [c0, c1, c2, c3], h =>
    unfold fd_api_Check at h
    obtain ⟨y0, h0, h⟩ := Option.bind_eq_some_iff.1 h
    obtain ⟨y1, h1, h⟩ := Option.bind_eq_some_iff.1 h
    obtain ⟨y2, h2, h⟩ := Option.bind_eq_some_iff.1 h
    obtain ⟨y3, h3, h⟩ := Option.bind_eq_some_iff.1 h
    cases h
    exact ⟨dStr_le h0, dInt_le h1, dInt_le h2, dInt_le h3, trivial⟩
theorem fd_api_Service_ok : ∀ cs x, fd_api_Service cs = some x → CsLe cs (cells .api_Service x) := by
  intro cs x h
  match cs, h with
  | [c0, c1, c2, c3, c4, c5, c6, c7, c8, c9, c10, c11, c12, c13, c14, c15, c16, c17], h =>
    unfold fd_api_Service at h
    obtain ⟨y0, h0, h⟩ := Option.bind_eq_some_iff.1 h
    obtain ⟨y1, h1, h⟩ := Option.bind_eq_some_iff.1 h
    obtain ⟨y2, h2, h⟩ := Option.bind_eq_some_iff.1 h
    obtain ⟨y3, h3, h⟩ := Option.bind_eq_some_iff.1 h
    obtain ⟨y4, h4, h⟩ := Option.bind_eq_some_iff.1 h
    obtain ⟨y5, h5, h⟩ := Option.bind_eq_some_iff.1 h
    obtain ⟨y6, h6, h⟩ := Option.bind_eq_some_iff.1 h
    obtain ⟨y7, h7, h⟩ := Option.bind_eq_some_iff.1 h
    obtain ⟨y8, h8, h⟩ := Option.bind_eq_some_iff.1 h
    obtain ⟨y9, h9, h⟩ := Option.bind_eq_some_iff.1 h
    obtain ⟨y10, h10, h⟩ := Option.bind_eq_some_iff.1 h
    obtain ⟨y11, h11, h⟩ := Option.bind_eq_some_iff.1 h
    obtain ⟨y12, h12, h⟩ := Option.bind_eq_some_iff.1 h
    obtain ⟨y13, h13, h⟩ := Option.bind_eq_some_iff.1 h
    obtain ⟨y14, h14, h⟩ := Option.bind_eq_some_iff.1 h
    obtain ⟨y15, h15, h⟩ := Option.bind_eq_some_iff.1 h
    obtain ⟨y16, h16, h⟩ := Option.bind_eq_some_iff.1 h
    obtain ⟨y17, h17, h⟩ := Option.bind_eq_some_iff.1 h
    cases h
    exact ⟨dStr_le h0, dStr_le h1, dSl_le h2, dSl_le h3, dSl_le h4, dSl_le h5, dSl_le h6, dSl_le h7, dSl_le h8, dInt_le h9, dStr_le h10, dInt_le h11, dInt_le h12, dInt_le h13, dInt_le h14, dInt_le h15, dInt_le h16, dInt_le h17, trivial⟩
theorem fd_l_api_Service_ok : ∀ cs x, fd_l_api_Service cs = some x → CsLe cs (cells .l_api_Service x) := by
  intro cs x h
  match cs, h with
  | [c], h => exact ⟨dSl_le h, trivial⟩
theorem fd_api_Project_ok : ∀ cs x, fd_api_Project cs = some x → CsLe cs (cells .api_Project x) := by
  intro cs x h
  match cs, h with
  | [c0, c1, c2, c3], h =>
    unfold fd_api_Project at h
    obtain ⟨y0, h0, h⟩ := Option.bind_eq_some_iff.1 h
    obtain ⟨y1, h1, h⟩ := Option.bind_eq_some_iff.1 h
    obtain ⟨y2, h2, h⟩ := Option.bind_eq_some_iff.1 h
    obtain ⟨y3, h3, h⟩ := Option.bind_eq_some_iff.1 h
    cases h
    exact ⟨dStr_le h0, dSl_le h1, dSl_le h2, dSl_le h3, trivial⟩
theorem fd_api_Spec_ok : ∀ cs x, fd_api_Spec cs = some x → CsLe cs (cells .api_Spec x) := by
  intro cs x h
  match cs, h with
  | [c0, c1, c2, c3, c4, c5, c6, c7, c8, c9, c10, c11, c12], h =>
    unfold fd_api_Spec at h
    obtain ⟨y0, h0, h⟩ := Option.bind_eq_some_iff.1 h
    obtain ⟨y1, h1, h⟩ := Option.bind_eq_some_iff.1 h
    obtain ⟨y2, h2, h⟩ := Option.bind_eq_some_iff.1 h
    obtain ⟨y3, h3, h⟩ := Option.bind_eq_some_iff.1 h
    obtain ⟨y4, h4, h⟩ := Option.bind_eq_some_iff.1 h
    obtain ⟨y5, h5, h⟩ := Option.bind_eq_some_iff.1 h
    obtain ⟨y6, h6, h⟩ := Option.bind_eq_some_iff.1 h
    obtain ⟨y7, h7, h⟩ := Option.bind_eq_some_iff.1 h
    obtain ⟨y8, h8, h⟩ := Option.bind_eq_some_iff.1 h
    obtain ⟨y9, h9, h⟩ := Option.bind_eq_some_iff.1 h
    obtain ⟨y10, h10, h⟩ := Option.bind_eq_some_iff.1 h
    obtain ⟨y11, h11, h⟩ := Option.bind_eq_some_iff.1 h
    obtain ⟨y12, h12, h⟩ := Option.bind_eq_some_iff.1 h
    cases h
    exact ⟨dStr_le h0, dStr_le h1, dStr_le h2, dInt_le h3, dStr_le h4, dSl_le h5, dSl_le h6, dStr_le h7, dInt_le h8, dInt_le h9, dInt_le h10, dInt_le h11, dInt_le h12, trivial⟩
theorem fd_byte_ok : ∀ cs x, fd_byte cs = some x → CsLe cs (cells .byte x) := by
  intro cs x h
  match cs, h with
  | [c], h => exact ⟨dInt_le h, trivial⟩
theorem fd_api_Errno_ok : ∀ cs x, fd_api_Errno cs = some x → CsLe cs (cells .api_Errno x) := by
  intro cs x h
  match cs, h with
  | [c], h => exact ⟨dInt_le h, trivial⟩
theorem fd_l_api_Node_ok : ∀ cs x, fd_l_api_Node cs = some x → CsLe cs (cells .l_api_Node x) := by
  intro cs x h
  match cs, h with
  | [c], h => exact ⟨dSl_le h, trivial⟩
theorem fd_api_Node_ok : ∀ cs x, fd_api_Node cs = some x → CsLe cs (cells .api_Node x) := by
  intro cs x h
  match cs, h with
  | [c0, c1, c2, c3], h =>
    unfold fd_api_Node at h
    obtain ⟨y0, h0, h⟩ := Option.bind_eq_some_iff.1 h
    obtain ⟨y1, h1, h⟩ := Option.bind_eq_some_iff.1 h
    obtain ⟨y2, h2, h⟩ := Option.bind_eq_some_iff.1 h
    obtain ⟨y3, h3, h⟩ := Option.bind_eq_some_iff.1 h
    cases h
    exact ⟨dInt_le h0, dStr_le h1, dSl_le h2, dSl_le h3, trivial⟩
theorem fd_graph_edges_ok : ∀ cs x, fd_graph_edges cs = some x → CsLe cs (cells .graph_edges x) := by
  intro cs x h
  match cs, h with
  | [c0], h =>
    unfold fd_graph_edges at h
    obtain ⟨y0, h0, h⟩ := Option.bind_eq_some_iff.1 h
    cases h
    exact ⟨dSl_le h0, trivial⟩
theorem fd_fn64_ok : ∀ cs x, fd_fn64 cs = some x → CsLe cs (cells .fn64 x) := by
  intro cs x h
  match cs, h with
  | [c], h => exact ⟨dFn_le h, trivial⟩
theorem fd_node_budget_ok : ∀ cs x, fd_node_budget cs = some x → CsLe cs (cells .node_budget x) := by
  intro cs x h
  match cs, h with
  | [c0], h =>
    unfold fd_node_budget at h
    obtain ⟨y0, h0, h⟩ := Option.bind_eq_some_iff.1 h
    cases h
    exact ⟨dInt_le h0, trivial⟩
theorem fd_load_fields_ok : ∀ cs x, fd_load_fields cs = some x → CsLe cs (cells .load_fields x) := by
  intro cs x h
  match cs, h with
  | [c0, c1, c2, c3], h =>
    unfold fd_load_fields at h
    obtain ⟨y0, h0, h⟩ := Option.bind_eq_some_iff.1 h
    obtain ⟨y1, h1, h⟩ := Option.bind_eq_some_iff.1 h
    obtain ⟨y2, h2, h⟩ := Option.bind_eq_some_iff.1 h
    obtain ⟨y3, h3, h⟩ := Option.bind_eq_some_iff.1 h
    cases h
    exact ⟨dInt_le h0, dStr_le h1, dSl_le h2, dSl_le h3, trivial⟩
theorem fd_fn67_ok : ∀ cs x, fd_fn67 cs = some x → CsLe cs (cells .fn67 x) := by
  intro cs x h
  match cs, h with
  | [c], h => exact ⟨dFn_le h, trivial⟩
theorem fd_fn191_ok : ∀ cs x, fd_fn191 cs = some x → CsLe cs (cells .fn191 x) := by
  intro cs x h
  match cs, h with
  | [c], h => exact ⟨dFn_le h, trivial⟩
theorem fd_fn164_ok : ∀ cs x, fd_fn164 cs = some x → CsLe cs (cells .fn164 x) := by
  intro cs x h
  match cs, h with
  | [c], h => exact ⟨dFn_le h, trivial⟩
theorem fd_a4_str_ok : ∀ cs x, fd_a4_str cs = some x → CsLe cs (cells .a4_str x) := by
  intro cs x h
  match cs, h with
  | [c0, c1, c2, c3], h =>
    unfold fd_a4_str at h
    obtain ⟨y0, h0, h⟩ := Option.bind_eq_some_iff.1 h
    obtain ⟨y1, h1, h⟩ := Option.bind_eq_some_iff.1 h
    obtain ⟨y2, h2, h⟩ := Option.bind_eq_some_iff.1 h
    obtain ⟨y3, h3, h⟩ := Option.bind_eq_some_iff.1 h
    cases h
    exact ⟨dStr_le h0, dStr_le h1, dStr_le h2, dStr_le h3, trivial⟩
theorem fd_iter_Seq2_string__string_ok : ∀ cs x, fd_iter_Seq2_string__string cs = some x → CsLe cs (cells .iter_Seq2_string__string x) := by
  intro cs x h
  match cs, h with
  | [c], h => exact ⟨dFn_le h, trivial⟩
theorem fd_l_byte_ok : ∀ cs x, fd_l_byte cs = some x → CsLe cs (cells .l_byte x) := by
  intro cs x h
  match cs, h with
  | [c], h => exact ⟨dSl_le h, trivial⟩
theorem fd_u32_ok : ∀ cs x, fd_u32 cs = some x → CsLe cs (cells .u32 x) := by
  intro cs x h
  match cs, h with
  | [c], h => exact ⟨dInt_le h, trivial⟩
theorem fd_sha_State_ok : ∀ cs x, fd_sha_State cs = some x → CsLe cs (cells .sha_State x) := by
  intro cs x h
  match cs, h with
  | [c0, c1, c2, c3, c4, c5, c6, c7], h =>
    unfold fd_sha_State at h
    obtain ⟨y0, h0, h⟩ := Option.bind_eq_some_iff.1 h
    obtain ⟨y1, h1, h⟩ := Option.bind_eq_some_iff.1 h
    obtain ⟨y2, h2, h⟩ := Option.bind_eq_some_iff.1 h
    obtain ⟨y3, h3, h⟩ := Option.bind_eq_some_iff.1 h
    obtain ⟨y4, h4, h⟩ := Option.bind_eq_some_iff.1 h
    obtain ⟨y5, h5, h⟩ := Option.bind_eq_some_iff.1 h
    obtain ⟨y6, h6, h⟩ := Option.bind_eq_some_iff.1 h
    obtain ⟨y7, h7, h⟩ := Option.bind_eq_some_iff.1 h
    cases h
    exact ⟨dInt_le h0, dInt_le h1, dInt_le h2, dInt_le h3, dInt_le h4, dInt_le h5, dInt_le h6, dInt_le h7, trivial⟩
theorem fd_l_int_ok : ∀ cs x, fd_l_int cs = some x → CsLe cs (cells .l_int x) := by
  intro cs x h
  match cs, h with
  | [c], h => exact ⟨dSl_le h, trivial⟩
theorem fd_st225_ok : ∀ cs x, fd_st225 cs = some x → CsLe cs (cells .st225 x) := by
  intro cs x h
  match cs, h with
  | [c0, c1], h =>
    unfold fd_st225 at h
    obtain ⟨y0, h0, h⟩ := Option.bind_eq_some_iff.1 h
    obtain ⟨y1, h1, h⟩ := Option.bind_eq_some_iff.1 h
    cases h
    exact ⟨dInt_le h0, dStr_le h1, trivial⟩
theorem fd_a4_st225_ok : ∀ cs x, fd_a4_st225 cs = some x → CsLe cs (cells .a4_st225 x) := by
  intro cs x h
  match cs, h with
  | [c0, c1, c2, c3, c4, c5, c6, c7], h =>
    unfold fd_a4_st225 at h
    obtain ⟨y0, h0, h⟩ := Option.bind_eq_some_iff.1 h
    obtain ⟨y1, h1, h⟩ := Option.bind_eq_some_iff.1 h
    obtain ⟨y2, h2, h⟩ := Option.bind_eq_some_iff.1 h
    obtain ⟨y3, h3, h⟩ := Option.bind_eq_some_iff.1 h
    obtain ⟨y4, h4, h⟩ := Option.bind_eq_some_iff.1 h
    obtain ⟨y5, h5, h⟩ := Option.bind_eq_some_iff.1 h
    obtain ⟨y6, h6, h⟩ := Option.bind_eq_some_iff.1 h
    obtain ⟨y7, h7, h⟩ := Option.bind_eq_some_iff.1 h
    cases h
    exact ⟨dInt_le h0, dStr_le h1, dInt_le h2, dStr_le h3, dInt_le h4, dStr_le h5, dInt_le h6, dStr_le h7, trivial⟩
theorem fd_a4_byte_ok : ∀ cs x, fd_a4_byte cs = some x → CsLe cs (cells .a4_byte x) := by
  intro cs x h
  match cs, h with
  | [c0, c1, c2, c3], h =>
    unfold fd_a4_byte at h
    obtain ⟨y0, h0, h⟩ := Option.bind_eq_some_iff.1 h
    obtain ⟨y1, h1, h⟩ := Option.bind_eq_some_iff.1 h
    obtain ⟨y2, h2, h⟩ := Option.bind_eq_some_iff.1 h
    obtain ⟨y3, h3, h⟩ := Option.bind_eq_some_iff.1 h
    cases h
    exact ⟨dInt_le h0, dInt_le h1, dInt_le h2, dInt_le h3, trivial⟩
theorem fd_fn230_ok : ∀ cs x, fd_fn230 cs = some x → CsLe cs (cells .fn230 x) := by
  intro cs x h
  match cs, h with
  | [c], h => exact ⟨dFn_le h, trivial⟩
theorem fd_norm_form_ok : ∀ cs x, fd_norm_form cs = some x → CsLe cs (cells .norm_form x) := by
  intro cs x h
  match cs, h with
  | [c0, c1, c2, c3, c4], h =>
    unfold fd_norm_form at h
    obtain ⟨y0, h0, h⟩ := Option.bind_eq_some_iff.1 h
    obtain ⟨y1, h1, h⟩ := Option.bind_eq_some_iff.1 h
    obtain ⟨y2, h2, h⟩ := Option.bind_eq_some_iff.1 h
    obtain ⟨y3, h3, h⟩ := Option.bind_eq_some_iff.1 h
    obtain ⟨y4, h4, h⟩ := Option.bind_eq_some_iff.1 h
    cases h
    exact ⟨dInt_le h0, dStr_le h1, dSl_le h2, dSl_le h3, dBl_le h4, trivial⟩
theorem fd_fn241_ok : ∀ cs x, fd_fn241 cs = some x → CsLe cs (cells .fn241 x) := by
  intro cs x h
  match cs, h with
  | [c], h => exact ⟨dFn_le h, trivial⟩
theorem fd_fn118_ok : ∀ cs x, fd_fn118 cs = some x → CsLe cs (cells .fn118 x) := by
  intro cs x h
  match cs, h with
  | [c], h => exact ⟨dFn_le h, trivial⟩
theorem fd_l_l_str_ok : ∀ cs x, fd_l_l_str cs = some x → CsLe cs (cells .l_l_str x) := by
  intro cs x h
  match cs, h with
  | [c], h => exact ⟨dSl_le h, trivial⟩
theorem fd_l_l_api_Node_ok : ∀ cs x, fd_l_l_api_Node cs = some x → CsLe cs (cells .l_l_api_Node x) := by
  intro cs x h
  match cs, h with
  | [c], h => exact ⟨dSl_le h, trivial⟩
theorem fd_u64_ok : ∀ cs x, fd_u64 cs = some x → CsLe cs (cells .u64 x) := by
  intro cs x h
  match cs, h with
  | [c], h => exact ⟨dInt_le h, trivial⟩
theorem fd_a8_byte_ok : ∀ cs x, fd_a8_byte cs = some x → CsLe cs (cells .a8_byte x) := by
  intro cs x h
  match cs, h with
  | [c0, c1, c2, c3, c4, c5, c6, c7], h =>
    unfold fd_a8_byte at h
    obtain ⟨y0, h0, h⟩ := Option.bind_eq_some_iff.1 h
    obtain ⟨y1, h1, h⟩ := Option.bind_eq_some_iff.1 h
    obtain ⟨y2, h2, h⟩ := Option.bind_eq_some_iff.1 h
    obtain ⟨y3, h3, h⟩ := Option.bind_eq_some_iff.1 h
    obtain ⟨y4, h4, h⟩ := Option.bind_eq_some_iff.1 h
    obtain ⟨y5, h5, h⟩ := Option.bind_eq_some_iff.1 h
    obtain ⟨y6, h6, h⟩ := Option.bind_eq_some_iff.1 h
    obtain ⟨y7, h7, h⟩ := Option.bind_eq_some_iff.1 h
    cases h
    exact ⟨dInt_le h0, dInt_le h1, dInt_le h2, dInt_le h3, dInt_le h4, dInt_le h5, dInt_le h6, dInt_le h7, trivial⟩
theorem fd_iter_Seq_string_ok : ∀ cs x, fd_iter_Seq_string cs = some x → CsLe cs (cells .iter_Seq_string x) := by
  intro cs x h
  match cs, h with
  | [c], h => exact ⟨dFn_le h, trivial⟩
theorem fd_fn45_ok : ∀ cs x, fd_fn45 cs = some x → CsLe cs (cells .fn45 x) := by
  intro cs x h
  match cs, h with
  | [c], h => exact ⟨dFn_le h, trivial⟩
theorem fd_schema_former_ok : ∀ cs x, fd_schema_former cs = some x → CsLe cs (cells .schema_former x) := by
  intro cs x h
  match cs, h with
  | [c], h => exact ⟨dFn_le h, trivial⟩
theorem fd_norm_field_ok : ∀ cs x, fd_norm_field cs = some x → CsLe cs (cells .norm_field x) := by
  intro cs x h
  match cs, h with
  | [c0, c1, c2, c3, c4, c5], h =>
    unfold fd_norm_field at h
    obtain ⟨y0, h0, h⟩ := Option.bind_eq_some_iff.1 h
    obtain ⟨y1, h1, h⟩ := Option.bind_eq_some_iff.1 h
    obtain ⟨y2, h2, h⟩ := Option.bind_eq_some_iff.1 h
    obtain ⟨y3, h3, h⟩ := Option.bind_eq_some_iff.1 h
    obtain ⟨y4, h4, h⟩ := Option.bind_eq_some_iff.1 h
    obtain ⟨y5, h5, h⟩ := Option.bind_eq_some_iff.1 h
    cases h
    exact ⟨dInt_le h0, dStr_le h1, dSl_le h2, dSl_le h3, dInt_le h4, dBl_le h5, trivial⟩
theorem fd_u6489_ok : ∀ cs x, fd_u6489 cs = some x → CsLe cs (cells .u6489 x) := by
  intro cs x h
  match cs, h with
  | [c], h => exact ⟨dInt_le h, trivial⟩
theorem fold_ok : ∀ t cs x, fold t cs = some x → CsLe cs (cells t x) := fun t => match t with
  | .str => fd_str_ok
  | .int => fd_int_ok
  | .bool => fd_bool_ok
  | .l_str => fd_l_str_ok
  | .api_Var => fd_api_Var_ok
  | .l_api_Var => fd_l_api_Var_ok
  | .api_Port => fd_api_Port_ok
  | .l_api_Port => fd_l_api_Port_ok
  | .api_Mount => fd_api_Mount_ok
  | .l_api_Mount => fd_l_api_Mount_ok
  | .api_Dep => fd_api_Dep_ok
  | .l_api_Dep => fd_l_api_Dep_ok
  | .api_Check => fd_api_Check_ok
  | .api_Service => fd_api_Service_ok
  | .l_api_Service => fd_l_api_Service_ok
  | .api_Project => fd_api_Project_ok
  | .api_Spec => fd_api_Spec_ok
  | .byte => fd_byte_ok
  | .api_Errno => fd_api_Errno_ok
  | .l_api_Node => fd_l_api_Node_ok
  | .api_Node => fd_api_Node_ok
  | .graph_edges => fd_graph_edges_ok
  | .fn64 => fd_fn64_ok
  | .node_budget => fd_node_budget_ok
  | .load_fields => fd_load_fields_ok
  | .fn67 => fd_fn67_ok
  | .fn191 => fd_fn191_ok
  | .fn164 => fd_fn164_ok
  | .a4_str => fd_a4_str_ok
  | .iter_Seq2_string__string => fd_iter_Seq2_string__string_ok
  | .l_byte => fd_l_byte_ok
  | .u32 => fd_u32_ok
  | .sha_State => fd_sha_State_ok
  | .l_int => fd_l_int_ok
  | .st225 => fd_st225_ok
  | .a4_st225 => fd_a4_st225_ok
  | .a4_byte => fd_a4_byte_ok
  | .fn230 => fd_fn230_ok
  | .norm_form => fd_norm_form_ok
  | .fn241 => fd_fn241_ok
  | .fn118 => fd_fn118_ok
  | .l_l_str => fd_l_l_str_ok
  | .l_l_api_Node => fd_l_l_api_Node_ok
  | .u64 => fd_u64_ok
  | .a8_byte => fd_a8_byte_ok
  | .iter_Seq_string => fd_iter_Seq_string_ok
  | .fn45 => fd_fn45_ok
  | .schema_former => fd_schema_former_ok
  | .norm_field => fd_norm_field_ok
  | .u6489 => fd_u6489_ok
theorem code_ok : ∀ i t, code i = some t → i = tid t := by
  intro i t h
  unfold code at h
  split at h <;> first | (cases h; rfl) | cases h
theorem info_ok : ∀ t, ∃ i z, Tryz.prog.info? (tid t) = some i ∧ i.size = size t ∧ i.bytes = bytes t ∧ i.zero = some z ∧ z.cells.size = size t := by
  intro t
  refine info_of ?_ rfl
  cases t <;> kernel_rfl
theorem agg_ok : ∀ t, isAggT Tryz.prog (tid t) = agg t := by intro t; cases t <;> kernel_rfl
theorem und_ok : ∀ t, (Tryz.prog.underlying (tid t)).isSome = true := by intro t; cases t <;> kernel_rfl
abbrev E : Env Tryz.prog where
  Ty := Ty
  dec := dec
  Den := Den
  tid := tid
  code := code
  agg := agg
  size := size
  bytes := bytes
  cells := cells
  fold := fold
  code_ok := code_ok
  info_ok := info_ok
  agg_ok := agg_ok
  und_ok := und_ok
  size_pos := by intro t; cases t <;> decide
  bytes_pos := by intro t; cases t <;> decide
  one := by intro t h; cases t <;> first | rfl | cases h
  cells_len := by intro t x; cases t <;> rfl
  dflt := dflt
  fold_ok := fold_ok
  byteT := byteT
  byteU := byteU
  byte_ok := byte_ok
  byteU_ok := byteU_ok
theorem mix : Tryz.prog.follows .mixedOrders = true := by kernel_rfl
def w64 (n : Int) : Int := IntKind.wrap .i64 n
theorem w64_id {n : Int} (h : -9223372036854775808 ≤ n) (h' : n ≤ 9223372036854775807) : w64 n = n := by
  unfold w64
  rw [IntKind.wrap_i64]
  omega
theorem gd {α : Type} (l : List α) (d : α) (i : Nat) (h : i < l.length) : List.getD l (Int.toNat (i : Int)) d = l[i] := by
  rw [Int.toNat_natCast, List.getD, List.getElem?_eq_getElem h]; rfl
theorem d0 (i : Nat) : decide ((0 : Int) ≤ (i : Int)) = true := by simp
theorem dlt {i n : Nat} (h : i < n) : decide ((i : Int) < (n : Int)) = true := by simp only [decide_eq_true_eq]; omega
theorem dge {i n : Nat} (h : n ≤ i) : decide ((i : Int) < (n : Int)) = false := by simp only [decide_eq_false_iff_not]; omega
theorem dT {p : Prop} [Decidable p] (h : p) : decide p = true := decide_eq_true h
theorem dF {p : Prop} [Decidable p] (h : ¬ p) : decide p = false := decide_eq_false h
theorem neT {a b : Int} (h : a ≠ b) : (a != b) = true := by simpa using h
theorem neF {a b : Int} (h : a = b) : (a != b) = false := by simp [h]
theorem eqT {a b : Int} (h : a = b) : (a == b) = true := by simp [h]
theorem eqF {a b : Int} (h : a ≠ b) : (a == b) = false := by simpa using h
theorem mb : maxBytes = 140737488355328 := rfl
theorem enc_str {w : World} {ro : Nat → Nat → Prop} {u : Value} {x : List UInt8} (h : DRep E w ro u (.str x)) : u = encStr x := by cases h; rfl
theorem row_strs {w : World} {ro : Nat → Nat → Prop} {xs : List Value} {l : List (List UInt8)} (hl : xs.length = l.length) (h : RowD E w ro .str xs l) : xs = l.map encStr := by
  apply List.ext_getElem?
  intro i
  by_cases hi : i < l.length
  · obtain ⟨u, hu, hd⟩ := h i l[i] 0 (.str l[i]) (List.getElem?_eq_getElem hi) rfl
    have hu : xs[i * 1 + 0]? = some u := hu
    rw [Nat.mul_one, Nat.add_zero] at hu
    rw [hu, enc_str hd]
    simp [hi]
  · rw [List.getElem?_eq_none (by omega), List.getElem?_eq_none (by simp; omega)]
theorem strs_row {w : World} {ro : Nat → Nat → Prop} (l : List (List UInt8)) : RowD E w ro .str (l.map encStr) l := by
  intro i x j c hx hc
  have hc : ([.str x] : List (DVal E.Den))[j]? = some c := hc
  cases j with
  | zero =>
    simp at hc
    subst hc
    refine ⟨encStr x, ?_, .str x⟩
    show (l.map encStr)[i * 1 + 0]? = some (encStr x)
    rw [Nat.mul_one, Nat.add_zero, List.getElem?_map, show l[i]? = some x from hx]
    rfl
  | succ j => simp at hc
def okSort (l : List (List UInt8)) : Bool := decide (l.length ≤ 1000000)
noncomputable def sort_M : FnM E := mut0 (E := E) .str false okSort Pl.msort
def sort_mid : FuncId := 40
theorem sort_mex : ∃ fn, Tryz.prog.funcs[sort_mid]? = some fn ∧ (fn.name == "runtime.NumGoroutine") = false ∧ fn.body.isNone = false := ⟨Tryz.f40, by kernel_rfl, by kernel_rfl, by kernel_rfl⟩
noncomputable def compact_M : FnM E := mut0 (E := E) .str true okSort Lib.compact
def compact_mid : FuncId := 41
theorem compact_mex : ∃ fn, Tryz.prog.funcs[compact_mid]? = some fn ∧ (fn.name == "runtime.NumGoroutine") = false ∧ fn.body.isNone = false := ⟨Tryz.f41, by kernel_rfl, by kernel_rfl, by kernel_rfl⟩
theorem msort_nil : Pl.msort [] = [] := by simp [Pl.msort]
theorem sort_mok : MutOk E sort_mid sort_M := by
  refine ⟨sort_mex, fun t l rest back l' h => ?_⟩
  obtain ⟨l, e1, hr, hb, hok, e2⟩ := mut0_inv h
  cases e1
  cases e2
  subst hr; subst hb
  have hok : okSort l = true := hok
  simp only [okSort, decide_eq_true_eq] at hok
  intro w ro gh xs vals hn hge hgs hown hrow hnro hargs hrolt
  match vals, hargs with
  | [], _ =>
  have hlen : (Pl.msort l).length = l.length := Pl.msort_len l
  rcases hown with ⟨hown, hblk⟩ | ⟨h0, hxs, hblk, ad, hv⟩
  · have hx1 : xs.length = l.length := by rw [hown.1, hgs, hn]; show l.length * 1 = _; omega
    have hxs := row_strs hx1 hrow
    rcases hown.2 with ⟨hnil, hn0⟩ | ⟨g, cap, cur, hgv, hbase, hb, h1, h2, h3, h4⟩
    · have hl0 : l = [] := List.eq_nil_of_length_eq_zero (by omega)
      subst hl0
      rw [hnil, msort_nil]
      refine (Tryz.slices_Sort_string_none none 0 w).mono fun e w' he => ?_
      obtain ⟨rfl, rfl⟩ := he
      refine ⟨_, gh, [], rfl, ⟨rfl, rfl, rfl, Nat.le_refl _, fun _ _ _ => rfl⟩, hn, hge, hgs, .inl ⟨?_, hblk⟩, strs_row [], fun g hg => .inl hg, (fun h => by cases h), fun _ => rfl⟩
      rw [hnil, hn0]
      exact World.ownsRow_nil _ 0 _ _
    · rw [hgv, hn]
      rw [hge] at hb
      have hsz : gh.sz = 1 := hgs
      rw [hsz, Nat.mul_one] at h3
      rw [hsz, Nat.mul_one, hn, hxs] at h4
      refine (Tryz.slices_Sort_string g 0 cap l w (holds_of_block hb h4) (Array.getElem?_eq_some_iff.1 hb).1 (by omega)).mono fun e w' he => ?_
      obtain ⟨rfl, n, os, rfl⟩ := he
      have hg2 : gh.blk = some g := by rw [hblk, hgv]; rfl
      refine ⟨_, gh, (Pl.msort l).map encStr, rfl, by rw [hg2]; exact grownBy_sorted _, by rw [hlen]; exact hn, hge, hgs, .inl ⟨?_, hblk⟩, strs_row _, fun g hg => .inl hg, (fun h => by cases h), fun _ => rfl⟩
      rw [hgv, hn, hge, hsz]
      exact ownsRow_sorted (ts := Pl.msort l) hlen (Nat.zero_le _) hb (by omega) h2 (by rw [h3, Nat.mul_one])
  · have hl0 : l = [] := List.eq_nil_of_length_eq_zero (by omega)
    subst hl0
    rw [hv, msort_nil]
    refine (Tryz.slices_Sort_string_none ad 0 w).mono fun e w' he => ?_
    obtain ⟨rfl, rfl⟩ := he
    exact ⟨_, gh, [], rfl, ⟨rfl, rfl, rfl, Nat.le_refl _, fun _ _ _ => rfl⟩, hn, hge, hgs, .inr ⟨h0, rfl, hblk, ad, hv⟩, strs_row [], fun g hg => .inl hg, (fun h => by cases h), fun _ => rfl⟩
theorem ownsRow_prefix {w : World} {base g cap n m : Nat} {e : TypeId} {xs : List Value} (h : w.ownsRow base e 1 (.slice (some ⟨g, 0, none⟩) n cap) n xs) (hm : m ≤ n) : w.ownsRow base e 1 (.slice (some ⟨g, 0, none⟩) m cap) m (xs.take m) := by
  obtain ⟨h1, h2⟩ := h
  refine ⟨by rw [List.length_take]; omega, .inr ?_⟩
  rcases h2 with ⟨h2, _⟩ | ⟨g', cap', cur, h2, h3, h4, h5, h6, h7, h8⟩
  · cases h2
  · cases h2
    exact ⟨g, cap, cur, rfl, h3, h4, by omega, h6, h7, by rw [← h8, List.take_take, Nat.mul_one, Nat.mul_one, Nat.min_eq_left hm]⟩
theorem compact_mok : MutOk E compact_mid compact_M := by
  refine ⟨compact_mex, fun t l rest back l' h => ?_⟩
  obtain ⟨l, e1, hr, hb, hok, e2⟩ := mut0_inv h
  cases e1
  cases e2
  subst hr; subst hb
  have hok : okSort l = true := hok
  simp only [okSort, decide_eq_true_eq] at hok
  intro w ro gh xs vals hn hge hgs hown hrow hnro hargs hrolt
  match vals, hargs with
  | [], _ =>
  have hlen := Pl.compact_len l
  rcases hown with ⟨hown, hblk⟩ | ⟨h0, hxs, hblk, ad, hv⟩
  · have hx1 : xs.length = l.length := by rw [hown.1, hgs, hn]; show l.length * 1 = _; omega
    have hxs := row_strs hx1 hrow
    rcases hown.2 with ⟨hnil, hn0⟩ | ⟨g, cap, cur, hgv, hbase, hb, h1, h2, h3, h4⟩
    · have hl0 : l = [] := List.eq_nil_of_length_eq_zero (by omega)
      subst hl0
      rw [hnil]
      refine (Tryz.slices_Compact_string_empty none 0 w).mono fun e w' he => ?_
      obtain ⟨rfl, rfl⟩ := he
      refine ⟨_, gh, [], rfl, ⟨rfl, rfl, rfl, Nat.le_refl _, fun _ _ _ => rfl⟩, hn, hge, hgs, .inl ⟨?_, hblk⟩, strs_row [], fun g hg => .inl hg, (fun _ => hnil.symm), (fun h => by cases h)⟩
      rw [hnil, hn0]
      exact World.ownsRow_nil _ 0 _ _
    · rw [hgv, hn]
      rw [hge] at hb
      have hsz : gh.sz = 1 := hgs
      rw [hsz, Nat.mul_one] at h3
      rw [hsz, Nat.mul_one, hn, hxs] at h4
      have hcap : l.length ≤ cap := by omega
      refine (Tryz.slices_Compact_string g 0 cap l w (holds_of_block hb h4) (by omega) hcap).mono fun e w' he => ?_
      obtain ⟨rfl, q, rfl⟩ := he
      have hg2 : gh.blk = some g := by rw [hblk, hgv]; rfl
      have hts : (Lib.compact l ++ List.replicate (l.length - (Lib.compact l).length) []).length = l.length := by simp; omega
      have hown' := ownsRow_sorted (n := q) (os := #[]) (ts := Lib.compact l ++ List.replicate (l.length - (Lib.compact l).length) []) hts (Nat.zero_le g) hb hcap h2 (by rw [h3, Nat.mul_one])
      rw [Sort.grow_empty] at hown'
      have hgb := grownBy_sorted (w := w) (g := g) (n := q) (os := #[]) (Lib.compact l ++ List.replicate (l.length - (Lib.compact l).length) []).toArray
      rw [Sort.grow_empty] at hgb
      have hp := ownsRow_prefix hown' hlen
      rw [List.map_append, List.take_left' (by simp)] at hp
      exact ⟨_, ⟨.slice (some ⟨g, 0, none⟩) (Lib.compact l).length cap, (Lib.compact l).length, E.tid .str, E.size .str, some g⟩, (Lib.compact l).map encStr, rfl, by rw [hg2]; exact hgb, rfl, rfl, rfl, .inl ⟨hp, rfl⟩, strs_row _,
        (fun g' hg' => .inl (by rw [hg2]; exact hg')), (fun _ => rfl), (fun h => by cases h)⟩
  · have hl0 : l = [] := List.eq_nil_of_length_eq_zero (by omega)
    subst hl0
    rw [hv]
    refine (Tryz.slices_Compact_string_empty ad 0 w).mono fun e w' he => ?_
    obtain ⟨rfl, rfl⟩ := he
    exact ⟨_, gh, [], rfl, ⟨rfl, rfl, rfl, Nat.le_refl _, fun _ _ _ => rfl⟩, hn, hge, hgs, .inr ⟨h0, rfl, hblk, ad, hv⟩, strs_row [], fun g hg => .inl hg, (fun _ => hv.symm), (fun h => by cases h)⟩
theorem zc_size (C : Array Value) (n : Nat) (h : C.size = 1) : (Builtin.zeroCells C n).size = n := by simp [Builtin.zeroCells, h]
set_option maxRecDepth 100000 in
theorem grow_gok : GrowOk E 226 .str := by
  refine ⟨⟨Tryz.f226, by kernel_rfl, by kernel_rfl, by kernel_rfl⟩, fun w n h0 hb => ?_⟩
  have hb : n * 16 ≤ 140737488355328 := hb
  by_cases hz : n = 0
  · subst hz
    go_enter Tryz.func226, Tryz.ntmps226
    go_wp2
    go_ret
    exact ⟨⟨.slice none 0 0, 0, E.tid .str, E.size .str, none⟩, rfl, Below.refl _ _, rfl, rfl, rfl, .inl ⟨World.ownsRow_nil w 0 _ _, rfl⟩, fun g hg => by cases hg⟩
  · obtain ⟨k, rfl⟩ : ∃ k : Nat, n = k := ⟨n.toNat, by omega⟩
    obtain ⟨i, z, hi, his, hib, hzz, hzs⟩ := E.info_ok .str
    have h := Lib.run_append_nil_zeros (P := Tryz.prog) w 23 3 23 9 i z .i64 .i64 Tryz.underlying23 Tryz.underlying3 hi hzz k (by omega) (by rw [his]; exact E.size_pos _) (by omega) (by rw [hib]; show k * 16 ≤ _; omega)
    generalize z.cells = C at h hzs
    have hC : C.size = 1 := hzs
    have hcap := grownCap_ge w k 0 9
    go_enter Tryz.func226, Tryz.ntmps226
    go_wp2_with (at_builtin; refine Lib.wpList_append_run _ rfl _ _ _ _ rfl _ _ rfl rfl _ _ h ?_)
    go_ret
    refine ⟨⟨.slice (some ⟨w.heap.size, 0, none⟩) 0 (grownCap w k 0 9), 0, E.tid .str, E.size .str, some w.heap.size⟩, rfl, ((Below.refl _ _).alloc (Nat.le_refl _) _).drew, rfl, rfl, rfl, .inl ⟨?_, rfl⟩, fun g hg => by cases hg; exact Nat.le_refl _⟩
    refine World.ownsRow.drew (World.ownsRow_made w _ _ (Nat.zero_le _) ?_ ?_)
    · exact grownCap_le_maxLen w k 0 9 (by unfold maxLen; omega)
    · rw [Array.size_append, zc_size C k hC, zc_size C _ hC]
      show _ = grownCap w k 0 9 * 1
      omega
theorem zcn_size (C : Array Value) (n : Nat) (h : C.size = 4) : (Builtin.zeroCells C n).size = n * 4 := by simp [Builtin.zeroCells, h]
set_option maxRecDepth 100000 in
theorem grown_gok : GrowOk E 227 .api_Node := by
  refine ⟨⟨Tryz.f227, by kernel_rfl, by kernel_rfl, by kernel_rfl⟩, fun w n h0 hb => ?_⟩
  have hb : n * 72 ≤ 140737488355328 := hb
  by_cases hz : n = 0
  · subst hz
    go_enter Tryz.func227, Tryz.ntmps227
    go_wp2
    go_ret
    exact ⟨⟨.slice none 0 0, 0, E.tid .api_Node, E.size .api_Node, none⟩, rfl, Below.refl _ _, rfl, rfl, rfl, .inl ⟨World.ownsRow_nil w 0 _ _, rfl⟩, fun g hg => by cases hg⟩
  · obtain ⟨k, rfl⟩ : ∃ k : Nat, n = k := ⟨n.toNat, by omega⟩
    obtain ⟨i, z, hi, his, hib, hzz, hzs⟩ := E.info_ok .api_Node
    have h := Lib.run_append_nil_zeros (P := Tryz.prog) w 96 3 96 98 i z .i64 .i64 Tryz.underlying96 Tryz.underlying3 hi hzz k (by omega) (by rw [his]; exact E.size_pos _) (by omega) (by rw [hib]; show k * 72 ≤ _; omega)
    generalize z.cells = C at h hzs
    have hC : C.size = 4 := hzs
    have hcap := grownCap_ge w k 0 98
    go_enter Tryz.func227, Tryz.ntmps227
    go_wp2_with (at_builtin; refine Lib.wpList_append_run _ rfl _ _ _ _ rfl _ _ rfl rfl _ _ h ?_)
    go_ret
    refine ⟨⟨.slice (some ⟨w.heap.size, 0, none⟩) 0 (grownCap w k 0 98), 0, E.tid .api_Node, E.size .api_Node, some w.heap.size⟩, rfl, ((Below.refl _ _).alloc (Nat.le_refl _) _).drew, rfl, rfl, rfl, .inl ⟨?_, rfl⟩, fun g hg => by cases hg; exact Nat.le_refl _⟩
    refine World.ownsRow.drew (World.ownsRow_made w _ _ (Nat.zero_le _) ?_ ?_)
    · exact grownCap_le_maxLen w k 0 98 (by unfold maxLen; omega)
    · rw [Array.size_append, zcn_size C k hC, zcn_size C _ hC]
      show _ = grownCap w k 0 98 * 4
      omega
def ln6 {α : Type} (l : List α) : Bool := decide (l.length ≤ 1000000)
theorem ln6_iff {α : Type} {l : List α} : ln6 l = true ↔ l.length ≤ 1000000 := by simp [ln6]
def idxF (s : List UInt8) : Nat → List (List UInt8) → Int
  | _, [] => -1
  | i, a :: t => if s = a then i else idxF s (i + 1) t
def index (l : List (List UInt8)) (s : List UInt8) : Int := idxF s 0 l
noncomputable def index_W : FnW E := fn2 (E := E) .l_str .str .int (fun l _ => ln6 l) index
def index_id : FuncId := 37
noncomputable def index_O : Oracle E := orac [] [] [] []
noncomputable def index_H : Hint E := Hint.mk [(0, [0, 1, 7, 8])] [] [] [] [] 5 []
noncomputable def index_C0 (v0 : List (List UInt8)) (v1 : List UInt8) (v2 v3 : Int) : ASt E := ASt.mk 19 [(0, .d (.slice .str v0)), (1, .d (.str v1)), (7, .d (.int .i64 v2)), (8, .d (.int .i64 v3))] [] 0
noncomputable def index_t (G : Nat → ASt E → Option (List (TV E))) (x0 : List (List UInt8)) (x1 : List UInt8) : Option (List (TV E)) :=
  G 0 (index_C0 x0 x1 (x0.length : Int) 0)
theorem index_e (G : Nat → ASt E → Option (List (TV E))) (x0 : List (List UInt8)) (x1 : List UInt8) : runE index_O index_H G Tryz.f37 [⟨.l_str, x0⟩, ⟨.str, x1⟩] = index_t G x0 x1 := by kernel_rfl
noncomputable def index_t0 (G : Nat → ASt E → Option (List (TV E))) (v0 : List (List UInt8)) (v1 : List UInt8) (v2 v3 : Int) : Option (List (TV E)) :=
  bif (decide (v3 < v2)) then (bif (decide ((0 : Int) ≤ v3) && decide (v3 < (v0.length : Int))) then (bif (v1 == (List.getD v0 (Int.toNat v3) (dflt .str))) then some [⟨.int, v3⟩] else G 0 (index_C0 v0 v1 v2 (w64 (v3 + (1 : Int))))) else none) else some [⟨.int, (-1 : Int)⟩]
theorem index_l0 (G : Nat → ASt E → Option (List (TV E))) (v0 : List (List UInt8)) (v1 : List UInt8) (v2 v3 : Int) : runL index_O index_H G Tryz.f37 0 (index_C0 v0 v1 v2 v3) = index_t0 G v0 v1 v2 v3 := by kernel_rfl
theorem index_f : Tryz.prog.funcs[37]? = some Tryz.f37 := by kernel_rfl
theorem index_n : (Tryz.f37.name == "runtime.NumGoroutine") = false := by kernel_rfl
theorem index_b : Tryz.f37.body.isNone = false := by kernel_rfl
theorem index_hO : OracleOk E index_O := orac_ok .nil .nil .nil .nil
theorem index_s0 {res : List (TV E)} {v0 : List (List UInt8)} {v1 : List UInt8} {v2 v3 : Int} (h : index_t0 (Gr E Tryz.f37 res) v0 v1 v2 v3 = some res) : Ev E Tryz.f37 res 0 (index_C0 v0 v1 v2 v3) := Ev.step index_hO mix ((index_l0 _ v0 v1 v2 v3).trans h)
theorem index_ok_of (h : ∀ (x0 : List (List UInt8)) (x1 : List UInt8), (fun l _ => ln6 l) x0 x1 = true → index_t (Gr E Tryz.f37 [⟨.int, index x0 x1⟩]) x0 x1 = some [⟨.int, index x0 x1⟩]) : FnOk E index_id index_W := fn2_ok index_hO mix index_f index_n index_b (fun x0 x1 hk => (index_e _ x0 x1).trans (h x0 x1 hk))
theorem index_loop (l : List (List UInt8)) (s : List UInt8) (hl : l.length ≤ 1000000) : ∀ (m i : Nat), l.length - i = m → i ≤ l.length → Ev E Tryz.f37 [⟨.int, idxF s i (l.drop i)⟩] 0 (index_C0 l s l.length i) := by
  intro m
  induction m with
  | zero =>
    intro i h1 h2
    refine index_s0 ?_
    simp only [index_t0, dge (show l.length ≤ i by omega), cond_false, List.drop_eq_nil_of_le (show l.length ≤ i by omega)]
    rfl
  | succ m ih =>
    intro i h1 h2
    have hi : i < l.length := by omega
    refine index_s0 ?_
    simp only [index_t0, dlt hi, d0, gd l _ i hi, Bool.and_self, cond_true]
    rw [← List.getElem_cons_drop hi]
    unfold idxF
    by_cases hs : s = l[i]
    · rw [if_pos hs, show (s == l[i]) = true from by simpa using hs]; rfl
    · rw [if_neg hs, show (s == l[i]) = false from by simpa using hs, cond_false, w64_id (by omega) (by omega)]
      exact Gr_of (ih (i + 1) (by omega) (by omega))
theorem index_ok : FnOk E index_id index_W := index_ok_of fun l s hk => by
  have := index_loop l s (ln6_iff.1 hk) l.length 0 (by omega) (by omega)
  rw [List.drop_zero] at this
  exact Gr_of this
def equal (a b : List (List UInt8)) : Bool := a == b
noncomputable def equal_W : FnW E := fn2 (E := E) .l_str .l_str .bool (fun a _ => ln6 a) equal
def equal_id : FuncId := 109
noncomputable def equal_O : Oracle E := orac [] [] [] []
noncomputable def equal_H : Hint E := Hint.mk [(0, [0, 1, 12, 13])] [] [] [] [] 5 []
noncomputable def equal_C0 (v0 : List (List UInt8)) (v1 : List (List UInt8)) (v2 v3 : Int) : ASt E := ASt.mk 26 [(0, .d (.slice .str v0)), (1, .d (.slice .str v1)), (12, .d (.int .i64 v2)), (13, .d (.int .i64 v3))] [] 0
noncomputable def equal_t (G : Nat → ASt E → Option (List (TV E))) (x0 : List (List UInt8)) (x1 : List (List UInt8)) : Option (List (TV E)) :=
  bif ((x0.length : Int) != (x1.length : Int)) then some [⟨.bool, false⟩] else G 0 (equal_C0 x0 x1 (x0.length : Int) 0)
theorem equal_e (G : Nat → ASt E → Option (List (TV E))) (x0 : List (List UInt8)) (x1 : List (List UInt8)) : runE equal_O equal_H G Tryz.f109 [⟨.l_str, x0⟩, ⟨.l_str, x1⟩] = equal_t G x0 x1 := by kernel_rfl
noncomputable def equal_t0 (G : Nat → ASt E → Option (List (TV E))) (v0 : List (List UInt8)) (v1 : List (List UInt8)) (v2 v3 : Int) : Option (List (TV E)) :=
  bif (decide (v3 < v2)) then (bif (decide ((0 : Int) ≤ v3) && decide (v3 < (v0.length : Int))) then (bif (decide ((0 : Int) ≤ v3) && decide (v3 < (v1.length : Int))) then (bif (!((List.getD v0 (Int.toNat v3) (dflt .str)) == (List.getD v1 (Int.toNat v3) (dflt .str)))) then some [⟨.bool, false⟩] else G 0 (equal_C0 v0 v1 v2 (w64 (v3 + (1 : Int))))) else none) else none) else some [⟨.bool, true⟩]
theorem equal_l0 (G : Nat → ASt E → Option (List (TV E))) (v0 : List (List UInt8)) (v1 : List (List UInt8)) (v2 v3 : Int) : runL equal_O equal_H G Tryz.f109 0 (equal_C0 v0 v1 v2 v3) = equal_t0 G v0 v1 v2 v3 := by kernel_rfl
theorem equal_f : Tryz.prog.funcs[109]? = some Tryz.f109 := by kernel_rfl
theorem equal_n : (Tryz.f109.name == "runtime.NumGoroutine") = false := by kernel_rfl
theorem equal_b : Tryz.f109.body.isNone = false := by kernel_rfl
theorem equal_hO : OracleOk E equal_O := orac_ok .nil .nil .nil .nil
theorem equal_s0 {res : List (TV E)} {v0 : List (List UInt8)} {v1 : List (List UInt8)} {v2 v3 : Int} (h : equal_t0 (Gr E Tryz.f109 res) v0 v1 v2 v3 = some res) : Ev E Tryz.f109 res 0 (equal_C0 v0 v1 v2 v3) := Ev.step equal_hO mix ((equal_l0 _ v0 v1 v2 v3).trans h)
theorem equal_ok_of (h : ∀ (x0 : List (List UInt8)) (x1 : List (List UInt8)), (fun a _ => ln6 a) x0 x1 = true → equal_t (Gr E Tryz.f109 [⟨.bool, equal x0 x1⟩]) x0 x1 = some [⟨.bool, equal x0 x1⟩]) : FnOk E equal_id equal_W := fn2_ok equal_hO mix equal_f equal_n equal_b (fun x0 x1 hk => (equal_e _ x0 x1).trans (h x0 x1 hk))
theorem equal_loop (a b : List (List UInt8)) (ha : a.length ≤ 1000000) (hab : a.length = b.length) : ∀ (m i : Nat), a.length - i = m → i ≤ a.length → Ev E Tryz.f109 [⟨.bool, a.drop i == b.drop i⟩] 0 (equal_C0 a b a.length i) := by
  intro m
  induction m with
  | zero =>
    intro i h1 h2
    refine equal_s0 ?_
    simp only [equal_t0, dge (show a.length ≤ i by omega), cond_false, List.drop_eq_nil_of_le (show a.length ≤ i by omega), List.drop_eq_nil_of_le (show b.length ≤ i by omega)]
    rfl
  | succ m ih =>
    intro i h1 h2
    have hi : i < a.length := by omega
    have hj : i < b.length := by omega
    refine equal_s0 ?_
    simp only [equal_t0, dlt hi, dlt hj, d0, gd a _ i hi, gd b _ i hj, Bool.and_self, cond_true]
    rw [← List.getElem_cons_drop hi, ← List.getElem_cons_drop hj, w64_id (by omega) (by omega)]
    by_cases hs : a[i] = b[i]
    · have e : (a[i] :: a.drop (i + 1) == b[i] :: b.drop (i + 1)) = (a.drop (i + 1) == b.drop (i + 1)) := by rw [List.cons_beq_cons]; simp [hs]
      rw [e, show (a[i] == b[i]) = true from by simpa using hs]
      exact Gr_of (ih (i + 1) (by omega) (by omega))
    · have e : (a[i] :: a.drop (i + 1) == b[i] :: b.drop (i + 1)) = false := by rw [List.cons_beq_cons]; simp [hs]
      rw [e, show (a[i] == b[i]) = false from by simpa using hs]
      rfl
theorem equal_ok : FnOk E equal_id equal_W := equal_ok_of fun a b hk => by
  simp only [equal_t]
  by_cases h : a.length = b.length
  · rw [neF (by omega), cond_false]
    have := equal_loop a b (ln6_iff.1 hk) h a.length 0 (by omega) (by omega)
    rw [List.drop_zero, List.drop_zero] at this
    exact Gr_of this
  · rw [neT (by omega), cond_true]
    have : equal a b = false := by simp only [equal, beq_eq_false_iff_ne]; exact fun e => h (by rw [e])
    rw [this]
def lens (l : List (List (List UInt8))) : Nat := (l.map List.length).sum
def okCat (l : List (List (List UInt8))) : Bool := decide (l.length ≤ 1000000) && decide (lens l ≤ 1000000)
noncomputable def concat_W : FnW E := fn1 (E := E) .l_l_str .l_str okCat List.flatten
def concat_id : FuncId := 198
noncomputable def concat_O : Oracle E := orac [] [] [] [(226, .str)]
noncomputable def concat_H : Hint E := Hint.mk [(0, [0, 3, 9, 10, 11]), (1, [6, 25, 26, 27])] [] [] [] [] 5 []
noncomputable def concat_C0 (v0 : List (List (List UInt8))) (v1 : Int) (v2 : List (List (List UInt8))) (v3 v4 : Int) : ASt E := ASt.mk 36 [(0, .d (.slice .l_str v0)), (3, .d (.int .i64 v1)), (9, .d (.slice .l_str v2)), (10, .d (.int .i64 v3)), (11, .d (.int .i64 v4))] [] 0
noncomputable def concat_C1 (v0 : Nat) (v1 : List (List (List UInt8))) (v2 v3 : Int) (v4 : List (List UInt8)) : ASt E := ASt.mk 36 [(6, .row .str v0 0), (25, .d (.slice .l_str v1)), (26, .d (.int .i64 v2)), (27, .d (.int .i64 v3))] [(0, .row .str v4)] 1
noncomputable def concat_t (G : Nat → ASt E → Option (List (TV E))) (x0 : List (List (List UInt8))) : Option (List (TV E)) :=
  G 0 (concat_C0 x0 0 x0 (x0.length : Int) 0)
theorem concat_e (G : Nat → ASt E → Option (List (TV E))) (x0 : List (List (List UInt8))) : runE concat_O concat_H G Tryz.f198 [⟨.l_l_str, x0⟩] = concat_t G x0 := by kernel_rfl
noncomputable def concat_t0 (G : Nat → ASt E → Option (List (TV E))) (v0 : List (List (List UInt8))) (v1 : Int) (v2 : List (List (List UInt8))) (v3 v4 : Int) : Option (List (TV E)) :=
  bif (decide (v4 < v3)) then (bif (decide ((0 : Int) ≤ v4) && decide (v4 < (v2.length : Int))) then (bif (decide ((w64 (v1 + ((List.getD v2 (Int.toNat v4) (dflt .l_str)).length : Int))) < (0 : Int))) then none else G 0 (concat_C0 v0 (w64 (v1 + ((List.getD v2 (Int.toNat v4) (dflt .l_str)).length : Int))) v2 v3 (w64 (v4 + (1 : Int))))) else none) else (bif (decide ((0 : Int) ≤ v1) && decide (v1 * (16 : Int) ≤ 140737488355328)) then G 1 (concat_C1 0 v0 (v0.length : Int) 0 []) else none)
theorem concat_l0 (G : Nat → ASt E → Option (List (TV E))) (v0 : List (List (List UInt8))) (v1 : Int) (v2 : List (List (List UInt8))) (v3 v4 : Int) : runL concat_O concat_H G Tryz.f198 0 (concat_C0 v0 v1 v2 v3 v4) = concat_t0 G v0 v1 v2 v3 v4 := by kernel_rfl
noncomputable def concat_t1 (G : Nat → ASt E → Option (List (TV E))) (_v0 : Nat) (v1 : List (List (List UInt8))) (v2 v3 : Int) (v4 : List (List UInt8)) : Option (List (TV E)) :=
  bif (decide (v3 < v2)) then (bif (decide ((0 : Int) ≤ v3) && decide (v3 < (v1.length : Int))) then (bif (decide ((v4.length + (List.getD v1 (Int.toNat v3) (dflt .l_str)).length) * 16 ≤ maxBytes)) then G 1 (concat_C1 (v4.length + (List.getD v1 (Int.toNat v3) (dflt .l_str)).length) v1 v2 (w64 (v3 + (1 : Int))) (v4 ++ (List.getD v1 (Int.toNat v3) (dflt .l_str)))) else none) else none) else some [⟨.l_str, v4⟩]
theorem concat_l1 (G : Nat → ASt E → Option (List (TV E))) (v0 : Nat) (v1 : List (List (List UInt8))) (v2 v3 : Int) (v4 : List (List UInt8)) : runL concat_O concat_H G Tryz.f198 1 (concat_C1 v0 v1 v2 v3 v4) = concat_t1 G v0 v1 v2 v3 v4 := by kernel_rfl
theorem concat_f : Tryz.prog.funcs[198]? = some Tryz.f198 := by kernel_rfl
theorem concat_n : (Tryz.f198.name == "runtime.NumGoroutine") = false := by kernel_rfl
theorem concat_b : Tryz.f198.body.isNone = false := by kernel_rfl
theorem concat_hO : OracleOk E concat_O := orac_ok .nil .nil .nil (.cons grow_gok .nil)
theorem concat_s0 {res : List (TV E)} {v0 : List (List (List UInt8))} {v1 : Int} {v2 : List (List (List UInt8))} {v3 v4 : Int} (h : concat_t0 (Gr E Tryz.f198 res) v0 v1 v2 v3 v4 = some res) : Ev E Tryz.f198 res 0 (concat_C0 v0 v1 v2 v3 v4) := Ev.step concat_hO mix ((concat_l0 _ v0 v1 v2 v3 v4).trans h)
theorem concat_s1 {res : List (TV E)} {v0 : Nat} {v1 : List (List (List UInt8))} {v2 v3 : Int} {v4 : List (List UInt8)} (h : concat_t1 (Gr E Tryz.f198 res) v0 v1 v2 v3 v4 = some res) : Ev E Tryz.f198 res 1 (concat_C1 v0 v1 v2 v3 v4) := Ev.step concat_hO mix ((concat_l1 _ v0 v1 v2 v3 v4).trans h)
theorem concat_ok_of (h : ∀ (x0 : List (List (List UInt8))), okCat x0 = true → concat_t (Gr E Tryz.f198 [⟨.l_str, List.flatten x0⟩]) x0 = some [⟨.l_str, List.flatten x0⟩]) : FnOk E concat_id concat_W := fn1_ok concat_hO mix concat_f concat_n concat_b (fun x0 hk => (concat_e _ x0).trans (h x0 hk))
theorem lens_take (l : List (List (List UInt8))) (i : Nat) (hi : i < l.length) : lens (l.take (i + 1)) = lens (l.take i) + l[i].length := by
  unfold lens
  rw [← List.take_append_getElem hi, List.map_append, List.sum_append]
  rfl
theorem lens_le (l : List (List (List UInt8))) : ∀ i, lens (l.take i) ≤ lens l := by
  intro i
  have : lens l = lens (l.take i) + lens (l.drop i) := by
    unfold lens
    rw [← List.sum_append, ← List.map_append, List.take_append_drop]
  omega
theorem concat_1 (l : List (List (List UInt8))) (hl : l.length ≤ 1000000) (hs : lens l ≤ 1000000) : ∀ (m i v0 : Nat) (out : List (List UInt8)), l.length - i = m → i ≤ l.length → out.length = lens (l.take i) → v0 = out.length →
    Ev E Tryz.f198 [⟨.l_str, out ++ (l.drop i).flatten⟩] 1 (concat_C1 v0 l l.length i out) := by
  intro m
  induction m with
  | zero =>
    intro i v0 out h1 h2 h3 h4
    refine concat_s1 ?_
    simp only [concat_t1, dge (show l.length ≤ i by omega), cond_false, List.drop_eq_nil_of_le (show l.length ≤ i by omega), List.flatten_nil, List.append_nil]
  | succ m ih =>
    intro i v0 out h1 h2 h3 h4
    have hi : i < l.length := by omega
    have h5 := lens_take l i hi
    have h6 := lens_le l (i + 1)
    refine concat_s1 ?_
    simp only [concat_t1, dlt hi, d0, gd l _ i hi, Bool.and_self, cond_true]
    rw [dT (show (out.length + l[i].length) * 16 ≤ maxBytes by rw [mb]; omega), cond_true, w64_id (by omega) (by omega), ← List.getElem_cons_drop hi, List.flatten_cons, ← List.append_assoc]
    exact Gr_of (ih (i + 1) _ (out ++ l[i]) (by omega) (by omega) (by rw [List.length_append]; omega) (by rw [List.length_append]))
theorem concat_0 (l : List (List (List UInt8))) (hl : l.length ≤ 1000000) (hs : lens l ≤ 1000000) : ∀ (m i : Nat), l.length - i = m → i ≤ l.length →
    Ev E Tryz.f198 [⟨.l_str, l.flatten⟩] 0 (concat_C0 l (lens (l.take i)) l l.length i) := by
  intro m
  induction m with
  | zero =>
    intro i h1 h2
    have e : l.take i = l := List.take_of_length_le (by omega)
    refine concat_s0 ?_
    simp only [concat_t0, dge (show l.length ≤ i by omega), cond_false, e, d0]
    rw [dT (show (lens l : Int) * 16 ≤ 140737488355328 by omega), Bool.and_self, cond_true]
    have := concat_1 l hl hs l.length 0 0 [] (by omega) (by omega) (by simp [lens]) rfl
    rw [List.drop_zero, List.nil_append] at this
    exact Gr_of this
  | succ m ih =>
    intro i h1 h2
    have hi : i < l.length := by omega
    have h5 := lens_take l i hi
    have h6 := lens_le l (i + 1)
    refine concat_s0 ?_
    simp only [concat_t0, dlt hi, d0, gd l _ i hi, Bool.and_self, cond_true]
    rw [w64_id (n := (lens (l.take i) : Int) + (l[i].length : Int)) (by omega) (by omega), dF (by omega), cond_false, w64_id (by omega) (by omega), show (lens (l.take i) : Int) + (l[i].length : Int) = (lens (l.take (i + 1)) : Nat) from by omega]
    exact Gr_of (ih (i + 1) (by omega) (by omega))
theorem concat_ok : FnOk E concat_id concat_W := concat_ok_of fun l hk => by
  simp only [okCat, Bool.and_eq_true, decide_eq_true_eq] at hk
  exact Gr_of (concat_0 l hk.1 hk.2 l.length 0 (by omega) (by omega))
noncomputable def nsorted_W : FnW E := fn1 (E := E) .l_str .l_str ln6 Pl.sortD
def nsorted_id : FuncId := 30
noncomputable def nsorted_O : Oracle E := orac [] [] [(41, compact_M), (40, sort_M)] []
noncomputable def nsorted_H : Hint E := Hint.mk [] [] [] [] [] 5 []
noncomputable def nsorted_t (_G : Nat → ASt E → Option (List (TV E))) (x0 : List (List UInt8)) : Option (List (TV E)) :=
  bif (decide ((([] : List (List UInt8)).length + x0.length) * 16 ≤ maxBytes)) then (bif (okSort (([] : List (List UInt8)) ++ x0)) then (bif (okSort (Pl.msort (([] : List (List UInt8)) ++ x0))) then some [⟨.l_str, (Lib.compact (Pl.msort (([] : List (List UInt8)) ++ x0)))⟩] else none) else none) else none
theorem nsorted_e (G : Nat → ASt E → Option (List (TV E))) (x0 : List (List UInt8)) : runE nsorted_O nsorted_H G Tryz.f30 [⟨.l_str, x0⟩] = nsorted_t G x0 := by kernel_rfl
theorem nsorted_f : Tryz.prog.funcs[30]? = some Tryz.f30 := by kernel_rfl
theorem nsorted_n : (Tryz.f30.name == "runtime.NumGoroutine") = false := by kernel_rfl
theorem nsorted_b : Tryz.f30.body.isNone = false := by kernel_rfl
theorem nsorted_hO : OracleOk E nsorted_O := orac_ok .nil .nil (.cons compact_mok (.cons sort_mok .nil)) .nil
theorem nsorted_ok_of (h : ∀ (x0 : List (List UInt8)), ln6 x0 = true → nsorted_t (Gr E Tryz.f30 [⟨.l_str, Pl.sortD x0⟩]) x0 = some [⟨.l_str, Pl.sortD x0⟩]) : FnOk E nsorted_id nsorted_W := fn1_ok nsorted_hO mix nsorted_f nsorted_n nsorted_b (fun x0 hk => (nsorted_e _ x0).trans (h x0 hk))
theorem nsorted_ok : FnOk E nsorted_id nsorted_W := nsorted_ok_of fun l hk => by
  have hl := ln6_iff.1 hk
  have h1 : okSort (([] : List (List UInt8)) ++ l) = true := by simpa [okSort] using hl
  have h2 : okSort (Pl.msort (([] : List (List UInt8)) ++ l)) = true := by simp only [okSort, decide_eq_true_eq, Pl.msort_len]; simpa using hl
  simp only [nsorted_t, h1, h2, cond_true]
  rw [dT (show (([] : List (List UInt8)).length + l.length) * 16 ≤ maxBytes by rw [mb, List.length_nil]; omega)]
  rfl
noncomputable def nat_W : FnW E := fn2 (E := E) .l_str .str .int (fun l _ => ln6 l) index
def nat_id : FuncId := 166
noncomputable def nat_O : Oracle E := orac [(37, index_W)] [] [] []
noncomputable def nat_H : Hint E := Hint.mk [] [] [] [] [] 5 []
noncomputable def nat_t (_G : Nat → ASt E → Option (List (TV E))) (x0 : List (List UInt8)) (x1 : List UInt8) : Option (List (TV E)) :=
  bif ((fun l _ => ln6 l) x0 x1) then some [⟨.int, (index x0 x1)⟩] else none
theorem nat_e (G : Nat → ASt E → Option (List (TV E))) (x0 : List (List UInt8)) (x1 : List UInt8) : runE nat_O nat_H G Tryz.f166 [⟨.l_str, x0⟩, ⟨.str, x1⟩] = nat_t G x0 x1 := by kernel_rfl
theorem nat_f : Tryz.prog.funcs[166]? = some Tryz.f166 := by kernel_rfl
theorem nat_n : (Tryz.f166.name == "runtime.NumGoroutine") = false := by kernel_rfl
theorem nat_b : Tryz.f166.body.isNone = false := by kernel_rfl
theorem nat_hO : OracleOk E nat_O := orac_ok (.cons index_ok .nil) .nil .nil .nil
theorem nat_ok_of (h : ∀ (x0 : List (List UInt8)) (x1 : List UInt8), (fun l _ => ln6 l) x0 x1 = true → nat_t (Gr E Tryz.f166 [⟨.int, index x0 x1⟩]) x0 x1 = some [⟨.int, index x0 x1⟩]) : FnOk E nat_id nat_W := fn2_ok nat_hO mix nat_f nat_n nat_b (fun x0 x1 hk => (nat_e _ x0 x1).trans (h x0 x1 hk))
theorem nat_ok : FnOk E nat_id nat_W := nat_ok_of fun l s hk => by simp only [nat_t, hk, cond_true]
end Go.Proofs.YtoibjelpldfpfaaGreatDoor.Rf
namespace Go.Proofs.YtoibjelpldfpfaaGreatDoor.Mir
open Go Go.RowKit
noncomputable section
section
variable {P : Program} {E : Env P}
def argsI : List (AV E) → Nat → List (Nat × AV E)
  | [], _ => []
  | v :: r, i => (i, bif isCond v then .any else v) :: argsI r (i + 1)
def startI (fn : Func) (args : List (AV E)) (objs : List (Nat × AObj E)) (next : Nat) : ASt E := ⟨args.length + (fn.ntmps - args.length), argsI args 0, objs, next⟩
def valsA (S : ASt E) : List ResultVar → Option (List (AV E))
  | [] => some []
  | r :: rs => match valA S r with
    | some v => (match isCond v with
      | true => none
      | false => (match valsA S rs with
        | some vs => some (v :: vs)
        | none => none))
    | none => none
def endI {R : Type} (fn : Func) (k : AV E → List (Nat × AObj E) → Nat → Option R) (e : AExit) (S : ASt E) : Option R := match e with
  | .exit _ => none
  | .goto _ => none
  | _ => match valsA S fn.results.toList with
    | some [v] => k v S.objs S.next
    | some vs => k (.tup vs) S.objs S.next
    | none => none
def loopU {R : Type} (f : ASt E → (AExit → ASt E → Option R) → Option R) : Nat → ASt E → (AExit → ASt E → Option R) → Option R
  | 0, _, _ => none
  | m + 1, S, k => f S (seqK (fun S' => loopU f m S' k) k)
def scK {R : Type} (J : Code → Code → ASt E → (AExit → ASt E → Option R) → Option R) (c : Code) (k : AExit → ASt E → Option R) (e : AExit) (S : ASt E) : Option R := match e with
  | .goto l => (match findLabel c l with
    | some rest => J c rest S k
    | none => none)
  | .normal => k .normal S
  | .exit id => k (.exit id) S
  | .ret => k .ret S
def evUJ {R : Type} (O : Oracle E) (h : Hint E) (m : Nat) (J : Code → Code → ASt E → (AExit → ASt E → Option R) → Option R) : Code → ASt E → (AExit → ASt E → Option R) → Option R
  | .skip, S, k => k .normal S
  | .region id ops dr, S, k => splitK (atN h.split id) (openS (atN h.opn id) (match memN h.frz id with | true => freezeS S | false => S)) fun S' => evRegL (memN h.lst id) O ops dr S' (k .normal)
  | .seq x y, S, k => evUJ O h m J x S (seqK (fun S' => evUJ O h m J y S' k) k)
  | .cond c x y, S, k => match getA S.tmps [] c with
    | .d (.bool b) => bif b then evUJ O h m J x S k else evUJ O h m J y S k
    | _ => none
  | .block id body, S, k => evUJ O h m J body S (blockK id k)
  | .loop b, S, k => loopU (evUJ O h m J b) m S k
  | .exit id, S, k => k (.exit id) S
  | .ret, S, k => k .ret S
  | .scope c, S, k => evUJ O h m J c S (scK J c k)
  | .label _, S, k => k .normal S
  | .goto l, S, k => k (.goto l) S
  | _, _, _ => none
def jmpU {R : Type} (O : Oracle E) (h : Hint E) (m : Nat) : Nat → Code → Code → ASt E → (AExit → ASt E → Option R) → Option R
  | 0, _, _, _, _ => none
  | d + 1, c, rest, S, k => evUJ O h m (jmpU O h m d) rest S (scK (jmpU O h m d) c k)
def evU {R : Type} (O : Oracle E) (h : Hint E) (m : Nat) : Code → ASt E → (AExit → ASt E → Option R) → Option R := evUJ O h m (jmpU O h m m)
def JOk {R : Type} (E : Env P) (w0 : Start) (ro0 : Nat → Nat → Prop) (n : Nat) (rr : R) (J : Code → Code → ASt E → (AExit → ASt E → Option R) → Option R) : Prop :=
  ∀ (c rest : Code) (S : ASt E) (k : AExit → ASt E → Option R) (Q : Exit → Act → World → Prop) (a : Act) (w : World) (ι : Nat → Option Gh) (ro : Nat → Nat → Prop),
    NoCond S.tmps → Gam E w0 ro0 S a w ι ro → S.n = n → J c rest S k = some rr →
    (∀ e S' a' w' ι' ro', NoCond S'.tmps → Gam E w0 ro0 S' a' w' ι' ro' → S'.n = n → k e S' = some rr → Q e.toExit a' w') → JumpWp P c rest Q a w
theorem scK_sound {R : Type} {w0 : Start} {ro0 : Nat → Nat → Prop} {n : Nat} {rr : R} {J : Code → Code → ASt E → (AExit → ASt E → Option R) → Option R} (hJ : JOk E w0 ro0 n rr J) {c : Code} {k : AExit → ASt E → Option R} {Q : Exit → Act → World → Prop}
    (hk : ∀ e S' a' w' ι' ro', NoCond S'.tmps → Gam E w0 ro0 S' a' w' ι' ro' → S'.n = n → k e S' = some rr → Q e.toExit a' w') (e : AExit) (S' : ASt E) (a' : Act) (w' : World) (ι' : Nat → Option Gh) (ro' : Nat → Nat → Prop)
    (h1 : NoCond S'.tmps) (h2 : Gam E w0 ro0 S' a' w' ι' ro') (h3 : S'.n = n) (h4 : scK J c k e S' = some rr) : scPost P c Q e.toExit a' w' := by
  cases e with
  | normal => exact hk .normal S' a' w' ι' ro' h1 h2 h3 h4
  | exit id => exact hk (.exit id) S' a' w' ι' ro' h1 h2 h3 h4
  | ret => exact hk .ret S' a' w' ι' ro' h1 h2 h3 h4
  | goto l =>
    simp only [scK] at h4
    split at h4
    · rename_i rest hf
      exact ⟨rest, hf, hJ c rest S' k Q a' w' ι' ro' h1 h2 h3 h4 hk⟩
    · cases h4
theorem evUJ_sound {R : Type} {O : Oracle E} (hO : OracleOk E O) (hmix : P.follows .mixedOrders = true) {h : Hint E} {m n : Nat} {w0 : Start} {ro0 : Nat → Nat → Prop} {rr : R} {J : Code → Code → ASt E → (AExit → ASt E → Option R) → Option R} (hJ : JOk E w0 ro0 n rr J) :
    ∀ (c : Code) (S : ASt E) (k : AExit → ASt E → Option R) (Q : Exit → Act → World → Prop) (a : Act) (w : World) (ι : Nat → Option Gh) (ro : Nat → Nat → Prop),
    NoCond S.tmps → Gam E w0 ro0 S a w ι ro → S.n = n → evUJ O h m J c S k = some rr →
    (∀ e S' a' w' ι' ro', NoCond S'.tmps → Gam E w0 ro0 S' a' w' ι' ro' → S'.n = n → k e S' = some rr → Q e.toExit a' w') → c.wp P Q a w := by
  intro c
  induction c with
  | skip => intro S k Q a w ι ro hnc hg hn h hk; exact wp_skip (hk .normal S a w ι ro hnc hg hn h)
  | ret => intro S k Q a w ι ro hnc hg hn h hk; exact wp_ret (hk .ret S a w ι ro hnc hg hn h)
  | exit id => intro S k Q a w ι ro hnc hg hn h hk; exact wp_exit (hk (.exit id) S a w ι ro hnc hg hn h)
  | region id ops draw =>
    intro S k Q a w ι ro hnc hg hn hh hk
    have go : ∀ (S : ASt E) (ro : Nat → Nat → Prop), NoCond S.tmps → Gam E w0 ro0 S a w ι ro → S.n = n → evRegL (memN h.lst id) O ops draw S (k .normal) = some rr → (Code.region id ops draw).wp P Q a w := fun S ro hnc hg hn hq =>
      evRegL_sound hO hmix hnc hg (fun S' a' w' ι' ro' h1 h2 h3 h4 => hk .normal S' a' w' ι' ro' h1 h2 (h3.trans hn) h4) hq
    simp only [evUJ] at hh
    have fin : ∀ (l1 : List (Nat × Nat)) (l2 : List Nat) (S : ASt E) (ro : Nat → Nat → Prop), NoCond S.tmps → Gam E w0 ro0 S a w ι ro → S.n = n → splitK l1 (openS l2 S) (fun S' => evRegL (memN h.lst id) O ops draw S' (k .normal)) = some rr → (Code.region id ops draw).wp P Q a w := by
      intro l1 l2 S ro hnc hg hn h
      obtain ⟨ro1, g1, g2, g3⟩ := openS_sound l2 S ro hnc hg
      obtain ⟨S2, g4, g5, g6, g7⟩ := splitK_sound _ _ g1 g2 h
      exact go S2 ro1 g4 g5 (g6.trans (g3.trans hn)) g7
    split at hh
    · obtain ⟨h1, h2⟩ := freezeS_sound hnc hg
      exact fin _ _ (freezeS S) _ h1 h2 hn hh
    · exact fin _ _ S ro hnc hg hn hh
  | seq x y ihx ihy =>
    intro S k Q a w ι ro hnc hg hn h hk
    refine wp_seq (ihx S _ _ a w ι ro hnc hg hn h fun e S' a' w' ι' ro' h1 h2 h3 h4 => ?_)
    cases e with
    | normal => exact ihy S' k Q a' w' ι' ro' h1 h2 h3 h4 hk
    | exit id => exact hk (.exit id) S' a' w' ι' ro' h1 h2 h3 h4
    | goto l => exact hk (.goto l) S' a' w' ι' ro' h1 h2 h3 h4
    | ret => exact hk .ret S' a' w' ι' ro' h1 h2 h3 h4
  | cond c x y ihx ihy =>
    intro S k Q a w ι ro hnc hg hn h hk
    have hc := getA_rep (E := E) (asm := []) hg.tmps (fun j b hb => by simp [hasAsm] at hb) c
    simp only [evUJ] at h
    split at h
    · rename_i b hb
      rw [hb] at hc
      have hc := hc.bool_inv
      cases b with
      | true => exact wp_cond_true hc (ihx S k Q a w ι ro hnc hg hn h hk)
      | false => exact wp_cond_false hc (ihy S k Q a w ι ro hnc hg hn h hk)
    · cases h
  | block id body ih =>
    intro S k Q a w ι ro hnc hg hn h hk
    refine wp_block (ih S _ _ a w ι ro hnc hg hn h fun e S' a' w' ι' ro' h1 h2 h3 h4 => ?_)
    cases e with
    | normal => exact hk .normal S' a' w' ι' ro' h1 h2 h3 h4
    | goto l => exact hk (.goto l) S' a' w' ι' ro' h1 h2 h3 h4
    | ret => exact hk .ret S' a' w' ι' ro' h1 h2 h3 h4
    | exit i =>
      simp only [AExit.toExit, Exit.inBlock, blockK] at h4 ⊢
      cases hb : Nat.beq i id with
      | true =>
        rw [hb] at h4
        rw [if_pos (Nat.eq_of_beq_eq_true hb)]
        exact hk .normal S' a' w' ι' ro' h1 h2 h3 h4
      | false =>
        rw [hb] at h4
        rw [if_neg (fun e => by subst e; simp at hb)]
        exact hk (.exit i) S' a' w' ι' ro' h1 h2 h3 h4
  | loop body ih =>
    intro S k Q a w ι ro hnc hg hn hh hk
    have rounds : ∀ (f : Nat) (S : ASt E) (a : Act) (w : World) (ι : Nat → Option Gh) (ro : Nat → Nat → Prop), NoCond S.tmps → Gam E w0 ro0 S a w ι ro → S.n = n → loopU (evUJ O h m J body) f S k = some rr → LoopWp P body Q a w := by
      intro f
      induction f with
      | zero => intro S a w ι ro _ _ _ h; cases h
      | succ f ihf =>
        intro S a w ι ro hnc hg hn h
        refine LoopWp.round (ih S _ _ a w ι ro hnc hg hn h fun e S' a' w' ι' ro' h1 h2 h3 h4 => ?_)
        cases e with
        | normal => exact ihf S' a' w' ι' ro' h1 h2 h3 h4
        | exit id => exact hk (.exit id) S' a' w' ι' ro' h1 h2 h3 h4
        | goto l => exact hk (.goto l) S' a' w' ι' ro' h1 h2 h3 h4
        | ret => exact hk .ret S' a' w' ι' ro' h1 h2 h3 h4
    exact (rounds m S a w ι ro hnc hg hn hh).wp
  | scope body ih =>
    intro S k Q a w ι ro hnc hg hn hh hk
    exact wp_scopeJ (ih S (scK J body k) (scPost P body Q) a w ι ro hnc hg hn hh fun e S' a' w' ι' ro' h1 h2 h3 h4 => scK_sound hJ hk e S' a' w' ι' ro' h1 h2 h3 h4)
  | label l => intro S k Q a w ι ro hnc hg hn h hk; exact wp_label (hk .normal S a w ι ro hnc hg hn h)
  | goto l => intro S k Q a w ι ro hnc hg hn h hk; exact wp_goto (hk (.goto l) S a w ι ro hnc hg hn h)
  | _ => intro S k Q a w ι ro hnc hg hn h hk; cases h
theorem jmpU_ok {R : Type} {O : Oracle E} (hO : OracleOk E O) (hmix : P.follows .mixedOrders = true) {h : Hint E} {m n : Nat} {w0 : Start} {ro0 : Nat → Nat → Prop} {rr : R} : ∀ d, JOk E w0 ro0 n rr (jmpU O h m d)
  | 0 => fun c rest S k Q a w ι ro _ _ _ h => by cases h
  | d + 1 => fun c rest S k Q a w ι ro hnc hg hn hh hk =>
    JumpWp.of (evUJ_sound hO hmix (jmpU_ok hO hmix d) rest S (scK (jmpU O h m d) c k) (scPost P c Q) a w ι ro hnc hg hn hh fun e S' a' w' ι' ro' h1 h2 h3 h4 => scK_sound (jmpU_ok hO hmix d) hk e S' a' w' ι' ro' h1 h2 h3 h4)
theorem evU_sound {R : Type} {O : Oracle E} (hO : OracleOk E O) (hmix : P.follows .mixedOrders = true) {h : Hint E} {m n : Nat} {w0 : Start} {ro0 : Nat → Nat → Prop} {rr : R}
    (c : Code) (S : ASt E) (k : AExit → ASt E → Option R) (Q : Exit → Act → World → Prop) (a : Act) (w : World) (ι : Nat → Option Gh) (ro : Nat → Nat → Prop)
    (hnc : NoCond S.tmps) (hg : Gam E w0 ro0 S a w ι ro) (hn : S.n = n) (hh : evU O h m c S k = some rr)
    (hk : ∀ e S' a' w' ι' ro', NoCond S'.tmps → Gam E w0 ro0 S' a' w' ι' ro' → S'.n = n → k e S' = some rr → Q e.toExit a' w') : c.wp P Q a w :=
  evUJ_sound hO hmix (jmpU_ok hO hmix m) c S k Q a w ι ro hnc hg hn hh hk
def hintOf (hs : List (FuncId × Hint E)) (f : FuncId) : Hint E := match look hs f with
  | some h => h
  | none => {}
def mkI (O : Oracle E) (tbl : List (FuncId × Func)) (hs : List (FuncId × Hint E)) : Nat → Inl E
  | 0 => .nil
  | n + 1 => ⟨fun f => (look tbl f).isSome, fun f args objs next k => match look tbl f with
    | some fn => match fn.body with
      | some c => evU { O with inl := mkI O tbl hs n } (hintOf hs f) (hintOf hs f).rounds c (startI fn args objs next) (endI fn k)
      | none => none
    | none => none⟩
def withI (O : Oracle E) (tbl : List (FuncId × Func)) (hs : List (FuncId × Hint E) := []) (d : Nat := 4) : Oracle E := { O with inl := mkI O tbl hs d }
theorem argsI_look : ∀ {args : List (AV E)} {i t : Nat} {x : AV E}, look (argsI args i) t = some x → i ≤ t ∧ ∃ y, args[t - i]? = some y ∧ x = bif isCond y then .any else y
  | [], _, _, _, h => by cases h
  | v :: r, i, t, x, h => by
    simp only [argsI, look_nil, look_cons] at h
    split at h
    · rename_i hb
      have := Nat.eq_of_beq_eq_true hb
      subst this
      cases h
      exact ⟨Nat.le_refl _, v, by simp, rfl⟩
    · rename_i hb
      obtain ⟨h1, z, h2, h3⟩ := argsI_look h
      have hne : t ≠ i := fun e => by subst e; omega
      exact ⟨by omega, z, by rw [show t - i = (t - (i + 1)) + 1 from by omega]; simpa using h2, h3⟩
theorem argsI_noCond : ∀ (args : List (AV E)) (i : Nat), NoCond (argsI args i)
  | [], _ => fun p h => by cases h
  | v :: r, i => fun p h => by
    cases h with
    | head =>
      cases hc : isCond v with
      | true => rfl
      | false => exact hc
    | tail _ h => exact argsI_noCond r (i + 1) p h
theorem valsA_rep {w0 : Start} {ro0 : Nat → Nat → Prop} {S : ASt E} {a : Act} {w : World} {ι : Nat → Option Gh} {ro : Nat → Nat → Prop} (hg : Gam E w0 ro0 S a w ι ro) : ∀ {rs : List ResultVar} {xs : List (AV E)}, valsA S rs = some xs →
    ∃ vs : List Value, (rs.mapM (resV a.tmps)).run P w = Result.ok vs w ∧ vs.length = xs.length ∧ ∀ (i : Nat) v x, vs[i]? = some v → xs[i]? = some x → Rep E w ro ι v x ∧ isCond x = false
  | [], xs, h => by cases h; exact ⟨[], by simp, rfl, fun i v x hv => by simp at hv⟩
  | r :: rs, xs, h => by
    unfold valsA at h
    split at h
    · rename_i v hv
      split at h
      · cases h
      · rename_i hc
        split at h
        · rename_i ys hys
          cases h
          obtain ⟨u, hu, hr⟩ := valA_rep hg hv
          obtain ⟨us, hus, hl, hrs⟩ := valsA_rep hg hys
          refine ⟨u :: us, by rw [List.mapM_cons]; simp only [Sem.run_bind, hu, Result.andThen_ok, hus, Sem.run_pure], by simp [hl], fun i v' x' h1 h2 => ?_⟩
          cases i with
          | zero => simp at h1 h2; subst h1; subst h2; exact ⟨hr, hc⟩
          | succ i => exact hrs i v' x' (by simpa using h1) (by simpa using h2)
        · cases h
    · cases h
def EndIP {R : Type} (E : Env P) (k : AV E → List (Nat × AObj E) → Nat → Option R) (rr : R) (w0 : Start) (ro0 : Nat → Nat → Prop) (e : Ending) (w' : World) : Prop :=
  ∃ (v : Value) (x : AV E) (objs' : List (Nat × AObj E)) (next' : Nat) (ι' : Nat → Option Gh) (ro' : Nat → Nat → Prop) (a' : Act), e = .returned v ∧ k x objs' next' = some rr ∧ Rep E w' ro' ι' v x ∧ Base w0 ro0 a' w' ι' ro' ∧
    (∀ (id : Nat) o, look objs' id = some o → ObjOk E w' ro' ι' id o) ∧ Inj E objs' ι' ∧ (∀ id, next' ≤ id → ι' id = none) ∧ (∀ id o, look objs' id = some o → id < next')
theorem endI_sound {R : Type} {fn : Func} {k : AV E → List (Nat × AObj E) → Nat → Option R} {rr : R} {w0 : Start} {ro0 : Nat → Nat → Prop} {e : AExit} {S' : ASt E} {a' : Act} {w' : World} {ι' : Nat → Option Gh} {ro' : Nat → Nat → Prop} (hg' : Gam E w0 ro0 S' a' w' ι' ro') (hk : endI fn k e S' = some rr) (hd : w0.dl = []) :
    bodyPost P fn (EndIP E k rr w0 ro0) e.toExit a' w' := by
  have fin : (match valsA S' fn.results.toList with | some [v] => k v S'.objs S'.next | some vs => k (.tup vs) S'.objs S'.next | none => none) = some rr → a'.defers = [] ∧ ∃ v, (results fn a'.tmps).run P w' = .ok v w' ∧ EndIP E k rr w0 ro0 (.returned v) w' := by
    intro h
    cases hv : valsA S' fn.results.toList with
    | none => rw [hv] at h; cases h
    | some xs =>
      rw [hv] at h
      obtain ⟨vs, hvs, hl, hrep⟩ := valsA_rep hg' hv
      refine ⟨hg'.base.defers.trans hd, if h : vs.length = 1 then vs[0] else .tuple vs.toArray, ?_, ?_⟩
      · show (do let vs ← fn.results.mapM (resV a'.tmps); pure (if h : vs.size = 1 then vs[0] else .tuple vs) : Sem Value).run P w' = _
        rw [Array.mapM_eq_mapM_toList]
        simp only [Sem.run_bind, Sem.run_map, hvs]
        simp [Result.andThen]
      · by_cases h1 : vs.length = 1
        · rw [dif_pos h1]
          match xs, hl, h, hrep with
          | [x], _, h, hrep => exact ⟨_, x, _, _, ι', ro', a', rfl, h, (hrep 0 _ x (List.getElem?_eq_getElem (by omega)) rfl).1, hg'.base, hg'.objs, hg'.inj, hg'.fresh, hg'.ids⟩
          | [], hl, _, _ => exact absurd (h1.symm.trans hl) (by simp)
          | _ :: _ :: _, hl, _, _ => exact absurd (h1.symm.trans hl) (by simp)
        · rw [dif_neg h1]
          have h : k (.tup xs) S'.objs S'.next = some rr := by
            match xs, hl, h with
            | [x], hl, _ => exact absurd hl h1
            | [], _, h => exact h
            | _ :: _ :: _, _, h => exact h
          exact ⟨_, .tup xs, _, _, ι', ro', a', rfl, h, .tup _ _ (by simpa using hl) (fun j v x hv hx => (hrep j v x (by simpa using hv) hx).1), hg'.base, hg'.objs, hg'.inj, hg'.fresh, hg'.ids⟩
  cases e with
  | normal => exact fin hk
  | ret => exact fin hk
  | exit id => cases hk
  | goto l => cases hk
def TblOk (P : Program) (tbl : List (FuncId × Func)) : Prop := ∀ p ∈ tbl, P.funcs[p.1]? = some p.2 ∧ (p.2.name == "runtime.NumGoroutine") = false ∧ p.2.body.isNone = false
theorem TblOk.nil : TblOk P [] := fun p h => by cases h
theorem TblOk.cons {f : FuncId} {fn : Func} {l : List (FuncId × Func)} (h1 : P.funcs[f]? = some fn) (h2 : (fn.name == "runtime.NumGoroutine") = false) (h3 : fn.body.isNone = false) (hl : TblOk P l) : TblOk P ((f, fn) :: l) := fun p hp => by
  cases hp with
  | head => exact ⟨h1, h2, h3⟩
  | tail _ hp => exact hl p hp
theorem mkI_ok {O : Oracle E} (hO : OracleOk E O) (hmix : P.follows .mixedOrders = true) {tbl : List (FuncId × Func)} {hs : List (FuncId × Hint E)} (ht : TblOk P tbl) : ∀ n, InlOk E (mkI O tbl hs n)
  | 0 => fun f args objs next k rr h => by cases h
  | n + 1 => fun f args objs next k rr h => by
    have hO' : OracleOk E { O with inl := mkI O tbl hs n } := ⟨hO.1, hO.2.1, hO.2.2.1, hO.2.2.2.1, mkI_ok hO hmix ht n, hO.2.2.2.2.2⟩
    simp only [mkI] at h
    split at h
    · rename_i fn hl
      obtain ⟨hf, hname, hbody⟩ := ht _ (look_mem _ _ _ hl)
      split at h
      · rename_i c hc
        refine ⟨⟨fn, hf, hname, hbody⟩, fun w0 ro0 a w ι ro vals hb ho hi hfr hids hlen hargs => ?_⟩
        let w1 : Start := ⟨w0.w, w0.x, some ⟨w, ro, ι⟩, [], w0.h⟩
        refine (calls_of_wp (R := EndIP E k rr w1 ro0) hf hc ?_).mono fun e w' he => by
          obtain ⟨v, x, objs', next', ι', ro', a', h1, h2, h3, h4, h5, h6, h7, h8⟩ := he
          obtain ⟨q1, q2⟩ := h4.keep _ rfl
          exact ⟨v, x, objs', next', ι', ro', h1, h2, h3, ⟨h4.below, h4.rolt, h4.ronew, h4.ilt, hb.defers, fun q hq => by
            obtain ⟨p1, p2⟩ := hb.keep q hq
            exact ⟨fun k o h => ⟨(q1 k o (p1 k o h).1).1, (q1 k o (p1 k o h).1).2.trans (p1 k o h).2⟩, fun id gh h => q2 id gh (p2 id gh h)⟩, h4.held⟩, h5, h6, h7, h8, q1, q2⟩
        have hg : Gam E w1 ro0 (startI fn args objs next) { tmps := vals.toArray ++ Array.replicate (fn.ntmps - vals.toArray.size) undef, defers := [] } w ι ro := {
          base := ⟨hb.below, hb.rolt, hb.ronew, hb.ilt, rfl, (fun q hq => by cases hq; exact ⟨fun k o h => ⟨h, rfl⟩, fun _ _ h => h⟩), hb.held⟩
          size := by simp [startI, hlen]
          tmps := fun t x hl => by
            obtain ⟨_, y, hy, rfl⟩ := argsI_look hl
            rw [Nat.sub_zero] at hy
            have hlt : t < vals.length := by rw [hlen]; exact (List.getElem?_eq_some_iff.1 hy).1
            have hv := List.getElem?_eq_getElem hlt
            refine ⟨vals[t], by simp [Array.getElem?_append, hlt], ?_⟩
            have hr : Rep E w ro ι vals[t] y := hargs t _ y hv hy
            cases hcy : isCond y with
            | true => exact Rep.any _
            | false =>
              rw [cond_false]
              cases y <;> first | exact hr | cases hcy
          objs := ho
          inj := hi
          fresh := hfr
          ids := hids }
        exact evU_sound (n := (startI fn args objs next).n) hO' hmix c (startI fn args objs next) (endI fn k) _ _ w _ ro (argsI_noCond args 0) hg rfl h
          fun e S' a' w' ι' ro' _ h2 _ h4 => endI_sound h2 h4 rfl
      · cases h
    · cases h
theorem withI_ok {O : Oracle E} (hO : OracleOk E O) (hmix : P.follows .mixedOrders = true) {tbl : List (FuncId × Func)} {hs : List (FuncId × Hint E)} {d : Nat} (ht : TblOk P tbl) : OracleOk E (withI O tbl hs d) := ⟨hO.1, hO.2.1, hO.2.2.1, hO.2.2.2.1, mkI_ok hO hmix ht d, hO.2.2.2.2.2⟩
def withC (O : Oracle E) (f : FuncId) (T : TypeId) : Oracle E := { O with cc := some (f, T) }
theorem withC_ok {O : Oracle E} (hO : OracleOk E O) {f : FuncId} {T : TypeId} (hf : ∃ fn, P.funcs[f]? = some fn ∧ (fn.name == "runtime.NumGoroutine") = false ∧ fn.body.isNone = false) (h : CopyOk P f T) : OracleOk E (withC O f T) :=
  ⟨hO.1, hO.2.1, hO.2.2.1, hO.2.2.2.1, hO.2.2.2.2.1, (fun g U hq => by cases hq; exact ⟨hf, h⟩), hO.2.2.2.2.2.2⟩
end
end
end Go.Proofs.YtoibjelpldfpfaaGreatDoor.Mir
namespace Go.Proofs.YtoibjelpldfpfaaGreatDoor.Rf
open Go Go.RowKit Go.Proofs.YtoibjelpldfpfaaGreatDoor.Mir
theorem bif2 {α β : Type} {c : Bool} {a b : Option α} {a' b' : Option β} {r : α} {r' : β} (h : (bif c then a else b) = some r) (h1 : a = some r → a' = some r') (h2 : b = some r → b' = some r') : (bif c then a' else b') = some r' := by
  cases c with
  | true => exact h1 h
  | false => exact h2 h
theorem some_of {α : Type} {o : Option α} {d : α} (h : o.isSome = true) : o = some (o.getD d) := by cases o with | none => cases h | some x => rfl
def mulHi (x y : Int) : Int := x * y / 18446744073709551616
def mulLo (x y : Int) : Int := x * y % 18446744073709551616
def isU (x : Int) : Bool := decide (0 ≤ x) && decide (x < 18446744073709551616)
def okMul (x y : Int) : Bool := isU x && isU y
noncomputable def bmul_W : FnW E := fn22 (E := E) .u64 .u64 .u64 .u64 okMul mulHi mulLo
def bmul_id : FuncId := 228
theorem u64_of {w : World} {ro : Nat → Nat → Prop} {u : Value} {x : Int} (h : TRep E w ro u .u64 x) : u = .int .u64 x := by
  rcases h with ⟨ha, _⟩ | ⟨_, d, hd, hr⟩
  · cases ha
  · have hd : ([.int .u64 x] : List (DVal E.Den)) = [d] := hd
    injection hd with hd _
    subst hd
    cases hr; rfl
theorem bmul_ok : FnOk E bmul_id bmul_W := by
  refine ⟨⟨Tryz.f228, by kernel_rfl, by kernel_rfl, by kernel_rfl⟩, fun args r hr => ?_⟩
  unfold bmul_W fn22 at hr
  split at hr
  · split at hr
    · rename_i x hx
      split at hr
      · rename_i y hy
        injection hr with hr
        injection hr with h1 h2
        subst h2
        rw [castV_eq hx, castV_eq hy]
        simp only [okMul, isU, Bool.and_eq_true, decide_eq_true_eq] at h1
        obtain ⟨⟨a1, a2⟩, b1, b2⟩ := h1
        obtain ⟨m, rfl⟩ : ∃ m : Nat, x = (m : Int) := ⟨Int.toNat x, (Int.toNat_of_nonneg a1).symm⟩
        obtain ⟨k, rfl⟩ : ∃ k : Nat, y = (k : Int) := ⟨Int.toNat y, (Int.toNat_of_nonneg b1).symm⟩
        intro w ro vals hargs hrolt
        match vals, hargs with
        | [u, v], ⟨g1, g2, _⟩ =>
          rw [u64_of g1, u64_of g2]
          refine (Tryz.bits_Mul64 m k (by omega) (by omega) w).mono fun e w' he => ?_
          obtain ⟨he, rfl⟩ := he
          refine ⟨_, he, Below.refl _ _, ⟨[.int .u64 _, .int .u64 _], rfl, .inr ⟨rfl, .int .u64 _, rfl, ?_⟩, .inr ⟨rfl, .int .u64 _, rfl, ?_⟩, trivial⟩⟩
          · exact .int .u64 _
          · exact .int .u64 _
      · cases hr
    · cases hr
  · cases hr
def abO (x p k : Int) : Option Bool :=
  bif (okMul x x) then (let y1 : Int := (mulHi x x); let y2 : Int := (mulLo x x); bif (k == (2 : Int)) then some ((bif (decide ((IntKind.wrap .u64 p) < y1)) then true else (bif (y1 == (IntKind.wrap .u64 p)) then (decide ((0 : Int) < y2)) else false))) else (bif (okMul y2 x) then (let y3 : Int := (mulHi y2 x); let y4 : Int := (mulLo y2 x); bif (decide ((0 : Int) ≤ (32 : Int)) && decide ((32 : Int) ≤ (64 : Int))) then some ((bif (decide ((IntKind.wrap .u64 ((IntKind.wrap .u64 p) * 2 ^ (Int.toNat (32 : Int)))) < (IntKind.wrap .u64 (y3 + (IntKind.wrap .u64 (y1 * x)))))) then true else (bif ((IntKind.wrap .u64 (y3 + (IntKind.wrap .u64 (y1 * x)))) == (IntKind.wrap .u64 ((IntKind.wrap .u64 p) * 2 ^ (Int.toNat (32 : Int))))) then (decide ((0 : Int) < y4)) else false))) else none) else none)) else none
def okAb (x p k : Int) : Bool := (abO x p k).isSome
def abV (x p k : Int) : Bool := (abO x p k).getD false
noncomputable def sabove_W : FnW E := fn3 (E := E) .u64 .int .int .bool okAb abV
def sabove_id : FuncId := 200
noncomputable def sabove_O : Oracle E := orac [(228, bmul_W)] [] [] []
noncomputable def sabove_H : Hint E := Hint.mk [] [] [] [] [] 5 []
noncomputable def sabove_t (_G : Nat → ASt E → Option (List (TV E))) (x0 x1 x2 : Int) : Option (List (TV E)) :=
  bif (okMul x0 x0) then (let y1 : Int := (mulHi x0 x0); let y2 : Int := (mulLo x0 x0); bif (x2 == (2 : Int)) then some [⟨.bool, (bif (decide ((IntKind.wrap .u64 x1) < y1)) then true else (bif (y1 == (IntKind.wrap .u64 x1)) then (decide ((0 : Int) < y2)) else false))⟩] else (bif (okMul y2 x0) then (let y3 : Int := (mulHi y2 x0); let y4 : Int := (mulLo y2 x0); bif (decide ((0 : Int) ≤ (32 : Int)) && decide ((32 : Int) ≤ (64 : Int))) then some [⟨.bool, (bif (decide ((IntKind.wrap .u64 ((IntKind.wrap .u64 x1) * 2 ^ (Int.toNat 32))) < (IntKind.wrap .u64 (y3 + (IntKind.wrap .u64 (y1 * x0)))))) then true else (bif ((IntKind.wrap .u64 (y3 + (IntKind.wrap .u64 (y1 * x0)))) == (IntKind.wrap .u64 ((IntKind.wrap .u64 x1) * 2 ^ (Int.toNat 32)))) then (decide ((0 : Int) < y4)) else false))⟩] else none) else none)) else none
theorem sabove_e (G : Nat → ASt E → Option (List (TV E))) (x0 : Int) (x1 : Int) (x2 : Int) : runE sabove_O sabove_H G Tryz.f200 [⟨.u64, x0⟩, ⟨.int, x1⟩, ⟨.int, x2⟩] = sabove_t G x0 x1 x2 := by kernel_rfl
theorem sabove_f : Tryz.prog.funcs[200]? = some Tryz.f200 := by kernel_rfl
theorem sabove_n : (Tryz.f200.name == "runtime.NumGoroutine") = false := by kernel_rfl
theorem sabove_b : Tryz.f200.body.isNone = false := by kernel_rfl
theorem sabove_hO : OracleOk E sabove_O := orac_ok (.cons bmul_ok .nil) .nil .nil .nil
theorem sabove_ok_of (h : ∀ (x0 : Int) (x1 : Int) (x2 : Int), okAb x0 x1 x2 = true → sabove_t (Gr E Tryz.f200 [⟨.bool, abV x0 x1 x2⟩]) x0 x1 x2 = some [⟨.bool, abV x0 x1 x2⟩]) : FnOk E sabove_id sabove_W := fn3_ok sabove_hO mix sabove_f sabove_n sabove_b (fun x0 x1 x2 hk => (sabove_e _ x0 x1 x2).trans (h x0 x1 x2 hk))
theorem sabove_ok : FnOk E sabove_id sabove_W := sabove_ok_of fun x p k hk => by
  have h := some_of (d := false) hk
  rw [show (abO x p k).getD false = abV x p k from rfl] at h
  unfold abO at h
  unfold sabove_t
  refine bif2 h (fun h => bif2 h (fun h => ?_) fun h => bif2 h (fun h => bif2 h (fun h => ?_) fun h => by cases h) fun h => by cases h) fun h => by cases h
  · have h := Option.some.inj h; rw [← h]
  · have h := Option.some.inj h; rw [← h]
def rtO : Nat → Int → Int → Int → Int → Option Int
  | 0, _, _, _, _ => none
  | f + 1, p, k, lo, hi => bif (decide ((1 : Int) < (IntKind.wrap .u64 (hi - lo)))) then (bif (okAb (IntKind.wrap .u64 (lo + (IntKind.wrap .u64 (Int.tdiv (IntKind.wrap .u64 (hi - lo)) (2 : Int))))) p k) then (bif abV (IntKind.wrap .u64 (lo + (IntKind.wrap .u64 (Int.tdiv (IntKind.wrap .u64 (hi - lo)) (2 : Int))))) p k then rtO f p k lo (IntKind.wrap .u64 (lo + (IntKind.wrap .u64 (Int.tdiv (IntKind.wrap .u64 (hi - lo)) (2 : Int))))) else rtO f p k (IntKind.wrap .u64 (lo + (IntKind.wrap .u64 (Int.tdiv (IntKind.wrap .u64 (hi - lo)) (2 : Int))))) hi) else none) else some (IntKind.wrap .u32 lo)
def rtT (p k : Int) : Option Int := bif (bif (bif (decide (p < (1 : Int))) then true else (decide ((1000 : Int) < p))) then true else (bif (k != (2 : Int)) then (k != (3 : Int)) else false)) then some 0 else rtO 50 p k 0 274877906944
def okRt (p k : Int) : Bool := (rtT p k).isSome
def rtV (p k : Int) : Int := (rtT p k).getD 0
noncomputable def sroot_W : FnW E := fn2 (E := E) .int .int .u32 okRt rtV
def sroot_id : FuncId := 157
noncomputable def sroot_O : Oracle E := orac [(200, sabove_W)] [] [] []
noncomputable def sroot_H : Hint E := Hint.mk [(0, [0, 1, 5, 6])] [] [] [] [] 5 []
noncomputable def sroot_C0 (v0 v1 v2 v3 : Int) : ASt E := ASt.mk 40 [(0, .d (.int .i64 v0)), (1, .d (.int .i64 v1)), (5, .d (.int .u64 v2)), (6, .d (.int .u64 v3))] [] 0
noncomputable def sroot_t (G : Nat → ASt E → Option (List (TV E))) (x0 x1 : Int) : Option (List (TV E)) :=
  bif (bif (bif (decide (x0 < (1 : Int))) then true else (decide ((1000 : Int) < x0))) then true else (bif (x1 != (2 : Int)) then (x1 != (3 : Int)) else false)) then some [⟨.u32, (0 : Int)⟩] else G 0 (sroot_C0 x0 x1 0 274877906944)
theorem sroot_e (G : Nat → ASt E → Option (List (TV E))) (x0 : Int) (x1 : Int) : runE sroot_O sroot_H G Tryz.f157 [⟨.int, x0⟩, ⟨.int, x1⟩] = sroot_t G x0 x1 := by kernel_rfl
noncomputable def sroot_t0 (G : Nat → ASt E → Option (List (TV E))) (v0 v1 v2 v3 : Int) : Option (List (TV E)) :=
  bif (decide ((1 : Int) < (IntKind.wrap .u64 (v3 - v2)))) then (bif (!((2 : Int) == (0 : Int))) then (bif (okAb (IntKind.wrap .u64 (v2 + (IntKind.wrap .u64 (Int.tdiv (IntKind.wrap .u64 (v3 - v2)) (2 : Int))))) v0 v1) then (let y1 : Bool := (abV (IntKind.wrap .u64 (v2 + (IntKind.wrap .u64 (Int.tdiv (IntKind.wrap .u64 (v3 - v2)) (2 : Int))))) v0 v1); bif y1 then G 0 (sroot_C0 v0 v1 v2 (IntKind.wrap .u64 (v2 + (IntKind.wrap .u64 (Int.tdiv (IntKind.wrap .u64 (v3 - v2)) (2 : Int)))))) else G 0 (sroot_C0 v0 v1 (IntKind.wrap .u64 (v2 + (IntKind.wrap .u64 (Int.tdiv (IntKind.wrap .u64 (v3 - v2)) (2 : Int))))) v3)) else none) else none) else some [⟨.u32, (IntKind.wrap .u32 v2)⟩]
theorem sroot_l0 (G : Nat → ASt E → Option (List (TV E))) (v0 v1 v2 v3 : Int) : runL sroot_O sroot_H G Tryz.f157 0 (sroot_C0 v0 v1 v2 v3) = sroot_t0 G v0 v1 v2 v3 := by kernel_rfl
theorem sroot_f : Tryz.prog.funcs[157]? = some Tryz.f157 := by kernel_rfl
theorem sroot_n : (Tryz.f157.name == "runtime.NumGoroutine") = false := by kernel_rfl
theorem sroot_b : Tryz.f157.body.isNone = false := by kernel_rfl
theorem sroot_hO : OracleOk E sroot_O := orac_ok (.cons sabove_ok .nil) .nil .nil .nil
theorem sroot_s0 {res : List (TV E)} {v0 v1 v2 v3 : Int} (h : sroot_t0 (Gr E Tryz.f157 res) v0 v1 v2 v3 = some res) : Ev E Tryz.f157 res 0 (sroot_C0 v0 v1 v2 v3) := Ev.step sroot_hO mix ((sroot_l0 _ v0 v1 v2 v3).trans h)
theorem sroot_ok_of (h : ∀ (x0 : Int) (x1 : Int), okRt x0 x1 = true → sroot_t (Gr E Tryz.f157 [⟨.u32, rtV x0 x1⟩]) x0 x1 = some [⟨.u32, rtV x0 x1⟩]) : FnOk E sroot_id sroot_W := fn2_ok sroot_hO mix sroot_f sroot_n sroot_b (fun x0 x1 hk => (sroot_e _ x0 x1).trans (h x0 x1 hk))
theorem rt_ev : ∀ (f : Nat) (p k lo hi r : Int), rtO f p k lo hi = some r → Ev E Tryz.f157 [⟨.u32, r⟩] 0 (sroot_C0 p k lo hi)
  | 0, _, _, _, _, _, h => by cases h
  | f + 1, p, k, lo, hi, r, h => by
    refine sroot_s0 ?_
    unfold rtO at h
    unfold sroot_t0
    rw [show (!((2 : Int) == (0 : Int))) = true from rfl, cond_true]
    refine bif2 h (fun h => bif2 h (fun h => ?_) fun h => by cases h) fun h => by have h := Option.some.inj h; rw [← h]
    exact bif2 h (fun h => Gr_of (rt_ev f _ _ _ _ _ h)) fun h => Gr_of (rt_ev f _ _ _ _ _ h)
theorem sroot_ok : FnOk E sroot_id sroot_W := sroot_ok_of fun p k hk => by
  have h := some_of (d := 0) hk
  rw [show (rtT p k).getD 0 = rtV p k from rfl] at h
  unfold rtT at h
  unfold sroot_t
  exact bif2 h (fun h => by have h := Option.some.inj h; rw [← h]) fun h => Gr_of (rt_ev _ _ _ _ _ _ h)
def roO (x n : Int) : Option Int :=
  bif (decide ((0 : Int) ≤ (bits .and .u64 (IntKind.wrap .u64 (w64 (0 - n))) (31 : Int))) && decide ((bits .and .u64 (IntKind.wrap .u64 (w64 (0 - n))) (31 : Int)) ≤ (32 : Int))) then (bif (decide ((0 : Int) ≤ (IntKind.wrap .u64 ((32 : Int) - (bits .and .u64 (IntKind.wrap .u64 (w64 (0 - n))) (31 : Int))))) && decide ((IntKind.wrap .u64 ((32 : Int) - (bits .and .u64 (IntKind.wrap .u64 (w64 (0 - n))) (31 : Int)))) ≤ (32 : Int))) then some ((bits .or .u32 (IntKind.wrap .u32 (x * 2 ^ (Int.toNat (bits .and .u64 (IntKind.wrap .u64 (w64 (0 - n))) (31 : Int))))) (x / 2 ^ (Int.toNat (IntKind.wrap .u64 ((32 : Int) - (bits .and .u64 (IntKind.wrap .u64 (w64 (0 - n))) (31 : Int)))))))) else none) else none
def okRo (x n : Int) : Bool := (roO x n).isSome
def roV (x n : Int) : Int := (roO x n).getD 0
noncomputable def srot_W : FnW E := fn2 (E := E) .u32 .int .u32 okRo roV
def srot_id : FuncId := 233
noncomputable def srot_O : Oracle E := withI (orac [] [] [] []) [(232, Tryz.f232)]
noncomputable def srot_H : Hint E := Hint.mk [] [] [] [] [] 5 []
noncomputable def srot_t (_G : Nat → ASt E → Option (List (TV E))) (x0 x1 : Int) : Option (List (TV E)) :=
  bif (decide ((0 : Int) ≤ (bits .and .u64 (IntKind.wrap .u64 (w64 (0 - x1))) 31)) && decide ((bits .and .u64 (IntKind.wrap .u64 (w64 (0 - x1))) 31) ≤ (32 : Int))) then (bif (decide ((0 : Int) ≤ (IntKind.wrap .u64 ((32 : Int) - (bits .and .u64 (IntKind.wrap .u64 (w64 (0 - x1))) 31)))) && decide ((IntKind.wrap .u64 ((32 : Int) - (bits .and .u64 (IntKind.wrap .u64 (w64 (0 - x1))) 31))) ≤ (32 : Int))) then some [⟨.u32, (bits .or .u32 (IntKind.wrap .u32 (x0 * 2 ^ (Int.toNat (bits .and .u64 (IntKind.wrap .u64 (w64 (0 - x1))) 31)))) (x0 / 2 ^ (Int.toNat (IntKind.wrap .u64 ((32 : Int) - (bits .and .u64 (IntKind.wrap .u64 (w64 (0 - x1))) 31))))))⟩] else none) else none
theorem srot_e (G : Nat → ASt E → Option (List (TV E))) (x0 : Int) (x1 : Int) : runE srot_O srot_H G Tryz.f233 [⟨.u32, x0⟩, ⟨.int, x1⟩] = srot_t G x0 x1 := by kernel_rfl
theorem srot_f : Tryz.prog.funcs[233]? = some Tryz.f233 := by kernel_rfl
theorem srot_n : (Tryz.f233.name == "runtime.NumGoroutine") = false := by kernel_rfl
theorem srot_b : Tryz.f233.body.isNone = false := by kernel_rfl
theorem srot_hO : OracleOk E srot_O := withI_ok (orac_ok .nil .nil .nil .nil) mix (.cons (f := 232) (fn := Tryz.f232) (by kernel_rfl) (by kernel_rfl) (by kernel_rfl) .nil)
theorem srot_ok_of (h : ∀ (x0 : Int) (x1 : Int), okRo x0 x1 = true → srot_t (Gr E Tryz.f233 [⟨.u32, roV x0 x1⟩]) x0 x1 = some [⟨.u32, roV x0 x1⟩]) : FnOk E srot_id srot_W := fn2_ok srot_hO mix srot_f srot_n srot_b (fun x0 x1 hk => (srot_e _ x0 x1).trans (h x0 x1 hk))
theorem srot_ok : FnOk E srot_id srot_W := srot_ok_of fun x n hk => by
  have h := some_of (d := 0) hk
  rw [show (roO x n).getD 0 = roV x n from rfl] at h
  unfold roO at h
  unfold srot_t
  refine bif2 h (fun h => bif2 h (fun h => ?_) fun h => by cases h) fun h => by cases h
  have h := Option.some.inj h; rw [← h]
noncomputable def srow_W : FnW E := fn2 (E := E) .u32 .int .u32 okRo roV
def srow_id : FuncId := 231
noncomputable def srow_O : Oracle E := withI (orac [] [] [] []) [(232, Tryz.f232)]
noncomputable def srow_H : Hint E := Hint.mk [] [] [] [] [] 5 []
noncomputable def srow_t (_G : Nat → ASt E → Option (List (TV E))) (x0 x1 : Int) : Option (List (TV E)) :=
  bif (decide ((0 : Int) ≤ (bits .and .u64 (IntKind.wrap .u64 (w64 (0 - x1))) 31)) && decide ((bits .and .u64 (IntKind.wrap .u64 (w64 (0 - x1))) 31) ≤ (32 : Int))) then (bif (decide ((0 : Int) ≤ (IntKind.wrap .u64 ((32 : Int) - (bits .and .u64 (IntKind.wrap .u64 (w64 (0 - x1))) 31)))) && decide ((IntKind.wrap .u64 ((32 : Int) - (bits .and .u64 (IntKind.wrap .u64 (w64 (0 - x1))) 31))) ≤ (32 : Int))) then some [⟨.u32, (bits .or .u32 (IntKind.wrap .u32 (x0 * 2 ^ (Int.toNat (bits .and .u64 (IntKind.wrap .u64 (w64 (0 - x1))) 31)))) (x0 / 2 ^ (Int.toNat (IntKind.wrap .u64 ((32 : Int) - (bits .and .u64 (IntKind.wrap .u64 (w64 (0 - x1))) 31))))))⟩] else none) else none
theorem srow_e (G : Nat → ASt E → Option (List (TV E))) (x0 : Int) (x1 : Int) : runE srow_O srow_H G Tryz.f231 [⟨.u32, x0⟩, ⟨.int, x1⟩] = srow_t G x0 x1 := by kernel_rfl
theorem srow_f : Tryz.prog.funcs[231]? = some Tryz.f231 := by kernel_rfl
theorem srow_n : (Tryz.f231.name == "runtime.NumGoroutine") = false := by kernel_rfl
theorem srow_b : Tryz.f231.body.isNone = false := by kernel_rfl
theorem srow_hO : OracleOk E srow_O := withI_ok (orac_ok .nil .nil .nil .nil) mix (.cons (f := 232) (fn := Tryz.f232) (by kernel_rfl) (by kernel_rfl) (by kernel_rfl) .nil)
theorem srow_ok_of (h : ∀ (x0 : Int) (x1 : Int), okRo x0 x1 = true → srow_t (Gr E Tryz.f231 [⟨.u32, roV x0 x1⟩]) x0 x1 = some [⟨.u32, roV x0 x1⟩]) : FnOk E srow_id srow_W := fn2_ok srow_hO mix srow_f srow_n srow_b (fun x0 x1 hk => (srow_e _ x0 x1).trans (h x0 x1 hk))
theorem srow_ok : FnOk E srow_id srow_W := srow_ok_of fun x n hk => by
  have h := some_of (d := 0) hk
  rw [show (roO x n).getD 0 = roV x n from rfl] at h
  unfold roO at h
  unfold srow_t
  refine bif2 h (fun h => bif2 h (fun h => ?_) fun h => by cases h) fun h => by cases h
  have h := Option.some.inj h; rw [← h]
def rdO (s : State) (k w : Int) : Option State :=
  bif (okRo s.e4 (6 : Int)) then (let y1 : Int := (roV s.e4 (6 : Int)); bif (okRo s.e4 (11 : Int)) then (let y2 : Int := (roV s.e4 (11 : Int)); bif (okRo s.e4 (25 : Int)) then (let y3 : Int := (roV s.e4 (25 : Int)); bif (okRo s.e0 (2 : Int)) then (let y4 : Int := (roV s.e0 (2 : Int)); bif (okRo s.e0 (13 : Int)) then (let y5 : Int := (roV s.e0 (13 : Int)); bif (okRo s.e0 (22 : Int)) then (let y6 : Int := (roV s.e0 (22 : Int)); some (⟨(IntKind.wrap .u32 ((IntKind.wrap .u32 ((IntKind.wrap .u32 ((IntKind.wrap .u32 ((IntKind.wrap .u32 (s.e7 + (bits .xor .u32 (bits .xor .u32 y1 y2) y3))) + (bits .xor .u32 (bits .and .u32 s.e4 s.e5) (bits .and .u32 (bits .xor .u32 (if IntKind.signed .u32 then -1 else IntKind.max .u32) s.e4) s.e6)))) + k)) + w)) + (IntKind.wrap .u32 ((bits .xor .u32 (bits .xor .u32 y4 y5) y6) + (bits .xor .u32 (bits .xor .u32 (bits .and .u32 s.e0 s.e1) (bits .and .u32 s.e0 s.e2)) (bits .and .u32 s.e1 s.e2)))))), s.e0, s.e1, s.e2, (IntKind.wrap .u32 (s.e3 + (IntKind.wrap .u32 ((IntKind.wrap .u32 ((IntKind.wrap .u32 ((IntKind.wrap .u32 (s.e7 + (bits .xor .u32 (bits .xor .u32 y1 y2) y3))) + (bits .xor .u32 (bits .and .u32 s.e4 s.e5) (bits .and .u32 (bits .xor .u32 (if IntKind.signed .u32 then -1 else IntKind.max .u32) s.e4) s.e6)))) + k)) + w)))), s.e4, s.e5, s.e6⟩ : State)) else none) else none) else none) else none) else none) else none
def okRd (s : State) (k w : Int) : Bool := (rdO s k w).isSome
def rdV (s : State) (k w : Int) : State := (rdO s k w).getD ⟨0, 0, 0, 0, 0, 0, 0, 0⟩
noncomputable def srnd_W : FnW E := fn3 (E := E) .sha_State .u32 .u32 .sha_State okRd rdV
def srnd_id : FuncId := 203
noncomputable def srnd_O : Oracle E := orac [(233, srot_W)] [] [] []
noncomputable def srnd_H : Hint E := Hint.mk [] [] [] [] [] 5 []
noncomputable def srnd_t (_G : Nat → ASt E → Option (List (TV E))) (x0 : State) (x1 x2 : Int) : Option (List (TV E)) :=
  bif (okRo x0.e4 6) then (let y1 : Int := (roV x0.e4 6); bif (okRo x0.e4 11) then (let y2 : Int := (roV x0.e4 11); bif (okRo x0.e4 25) then (let y3 : Int := (roV x0.e4 25); bif (okRo x0.e0 2) then (let y4 : Int := (roV x0.e0 2); bif (okRo x0.e0 13) then (let y5 : Int := (roV x0.e0 13); bif (okRo x0.e0 22) then (let y6 : Int := (roV x0.e0 22); some [⟨.sha_State, (⟨(IntKind.wrap .u32 ((IntKind.wrap .u32 ((IntKind.wrap .u32 ((IntKind.wrap .u32 ((IntKind.wrap .u32 (x0.e7 + (bits .xor .u32 (bits .xor .u32 y1 y2) y3))) + (bits .xor .u32 (bits .and .u32 x0.e4 x0.e5) (bits .and .u32 (bits .xor .u32 (if IntKind.signed .u32 then -1 else IntKind.max .u32) x0.e4) x0.e6)))) + x1)) + x2)) + (IntKind.wrap .u32 ((bits .xor .u32 (bits .xor .u32 y4 y5) y6) + (bits .xor .u32 (bits .xor .u32 (bits .and .u32 x0.e0 x0.e1) (bits .and .u32 x0.e0 x0.e2)) (bits .and .u32 x0.e1 x0.e2)))))), x0.e0, x0.e1, x0.e2, (IntKind.wrap .u32 (x0.e3 + (IntKind.wrap .u32 ((IntKind.wrap .u32 ((IntKind.wrap .u32 ((IntKind.wrap .u32 (x0.e7 + (bits .xor .u32 (bits .xor .u32 y1 y2) y3))) + (bits .xor .u32 (bits .and .u32 x0.e4 x0.e5) (bits .and .u32 (bits .xor .u32 (if IntKind.signed .u32 then -1 else IntKind.max .u32) x0.e4) x0.e6)))) + x1)) + x2)))), x0.e4, x0.e5, x0.e6⟩ : State)⟩]) else none) else none) else none) else none) else none) else none
theorem srnd_e (G : Nat → ASt E → Option (List (TV E))) (x0 : State) (x1 : Int) (x2 : Int) : runE srnd_O srnd_H G Tryz.f203 [⟨.sha_State, x0⟩, ⟨.u32, x1⟩, ⟨.u32, x2⟩] = srnd_t G x0 x1 x2 := by kernel_rfl
theorem srnd_f : Tryz.prog.funcs[203]? = some Tryz.f203 := by kernel_rfl
theorem srnd_n : (Tryz.f203.name == "runtime.NumGoroutine") = false := by kernel_rfl
theorem srnd_b : Tryz.f203.body.isNone = false := by kernel_rfl
theorem srnd_hO : OracleOk E srnd_O := orac_ok (.cons srot_ok .nil) .nil .nil .nil
theorem srnd_ok_of (h : ∀ (x0 : State) (x1 : Int) (x2 : Int), okRd x0 x1 x2 = true → srnd_t (Gr E Tryz.f203 [⟨.sha_State, rdV x0 x1 x2⟩]) x0 x1 x2 = some [⟨.sha_State, rdV x0 x1 x2⟩]) : FnOk E srnd_id srnd_W := fn3_ok srnd_hO mix srnd_f srnd_n srnd_b (fun x0 x1 x2 hk => (srnd_e _ x0 x1 x2).trans (h x0 x1 x2 hk))
theorem srnd_ok : FnOk E srnd_id srnd_W := srnd_ok_of fun s k w hk => by
  have h := some_of (d := ⟨0, 0, 0, 0, 0, 0, 0, 0⟩) hk
  rw [show (rdO s k w).getD ⟨0, 0, 0, 0, 0, 0, 0, 0⟩ = rdV s k w from rfl] at h
  unfold rdO at h
  unfold srnd_t
  refine bif2 h (fun h => bif2 h (fun h => bif2 h (fun h => bif2 h (fun h => bif2 h (fun h => bif2 h (fun h => ?_) fun h => by cases h) fun h => by cases h) fun h => by cases h) fun h => by cases h) fun h => by cases h) fun h => by cases h
  have h := Option.some.inj h
  rw [← h]
end Go.Proofs.YtoibjelpldfpfaaGreatDoor.Rf
namespace Go.Proofs.YtoibjelpldfpfaaGreatDoor.Rf
open Go Go.RowKit Go.Sort Go.Proofs.YtoibjelpldfpfaaGreatDoor.Mir
theorem str_of {w : World} {ro : Nat → Nat → Prop} {v : Value} {s : List UInt8} (h : TRep E w ro v Ty.str s) : v = .string ⟨s.toArray⟩ := by
  rcases h with ⟨ha, _⟩ | ⟨_, d, hd, hr⟩
  · cases ha
  · have hd : ([.str s] : List (DVal E.Den)) = [d] := hd
    injection hd with hd _
    subst hd
    cases hr; rfl
theorem fn2_kit {f : FuncId} {a b t : E.Ty} {ok : E.Den a → E.Den b → Bool} {F : E.Den a → E.Den b → E.Den t} (ex : ∃ fn, Tryz.prog.funcs[f]? = some fn ∧ (fn.name == "runtime.NumGoroutine") = false ∧ fn.body.isNone = false) (h : ∀ x y, ok x y = true → CallsOk E f [⟨a, x⟩, ⟨b, y⟩] [⟨t, F x y⟩]) : FnOk E f (fn2 a b t ok F) :=
  ⟨ex, fun args r hr => by
    unfold fn2 at hr
    split at hr
    · split at hr
      · rename_i x hx
        split at hr
        · rename_i y hy
          injection hr with hr
          injection hr with h1 h2
          subst h2
          rw [castV_eq hx, castV_eq hy]
          exact h _ _ h1
        · cases hr
      · cases hr
    · cases hr⟩
def okIx (s p : List UInt8) : Bool := decide (s.length ≤ 1000000) && decide (p.length = 1)
def ixV (s p : List UInt8) : Int := Lib.indexByte s (p.headD 0)
noncomputable def sindex_W : FnW E := fn2 (E := E) .str .str .int okIx ixV
def sindex_id : FuncId := 221
theorem sindex_ok : FnOk E sindex_id sindex_W := fn2_kit ⟨Tryz.f221, by kernel_rfl, by kernel_rfl, by kernel_rfl⟩ fun s p hk => by
  simp only [okIx, Bool.and_eq_true, decide_eq_true_eq] at hk
  obtain ⟨c, rfl⟩ : ∃ c, p = [c] := by
    match p, hk.2 with
    | [c], _ => exact ⟨c, rfl⟩
  intro w ro vals hargs hrolt
  match vals, hargs with
  | [u, v], ⟨h1, h2, _⟩ =>
    have e1 : u = .string ⟨s.toArray⟩ := by
      rcases h1 with ⟨ha, _⟩ | ⟨_, d, hd, hr⟩
      · cases ha
      · have hd : ([.str s] : List (DVal E.Den)) = [d] := hd
        injection hd with hd _
        subst hd
        cases hr; rfl
    have e2 : v = .string ⟨[c].toArray⟩ := by
      rcases h2 with ⟨ha, _⟩ | ⟨_, d, hd, hr⟩
      · cases ha
      · have hd : ([.str [c]] : List (DVal E.Den)) = [d] := hd
        injection hd with hd _
        subst hd
        cases hr; rfl
    subst e1; subst e2
    refine (Tryz.stringslite_Index_one ⟨s.toArray⟩ c w).mono fun e w' he => ?_
    obtain ⟨he, rfl⟩ := he
    refine ⟨_, he, Below.refl _ _, .inr ⟨rfl, .int .i64 (ixV s [c]), rfl, ?_⟩⟩
    exact .int .i64 (Lib.indexByte s c)
theorem ix_ge (s : List UInt8) (c : UInt8) : Lib.indexByte s c < 0 ∨ ∃ i : Nat, Lib.indexByte s c = i ∧ i < s.length := by
  induction s with
  | nil => exact .inl (show (-1 : Int) < 0 by decide)
  | cons a t ih =>
    unfold Lib.indexByte
    split
    · exact .inr ⟨0, rfl, by simp⟩
    · rcases ih with h | ⟨i, h1, h2⟩
      · left
        split
        · decide
        · have := Lib.indexByte_ge t c
          rename_i hne
          exfalso
          have : Lib.indexByte t c = -1 := by omega
          rw [this] at hne
          exact hne rfl
      · right
        split
        · rename_i he
          rw [h1] at he
          have : (i : Int) = -1 := (beq_iff_eq.1 he)
          omega
        · exact ⟨i + 1, by rw [h1]; omega, by simp; omega⟩
def cutA (s p : List UInt8) : List UInt8 := bif decide (0 ≤ ixV s p) then s.take (ixV s p).toNat else s
def cutB (s p : List UInt8) : List UInt8 := bif decide (0 ≤ ixV s p) then s.drop ((ixV s p).toNat + 1) else []
def cutC (s p : List UInt8) : Bool := decide (0 ≤ ixV s p)
noncomputable def lcut_W : FnW E := fn23 (E := E) .str .str .str .str .bool okIx cutA cutB cutC
def lcut_id : FuncId := 192
noncomputable def lcut_O : Oracle E := orac [(221, sindex_W)] [] [] []
noncomputable def lcut_H : Hint E := Hint.mk [] [] [] [] [] 5 []
noncomputable def lcut_t (_G : Nat → ASt E → Option (List (TV E))) (x0 x1 : List UInt8) : Option (List (TV E)) :=
  bif (okIx x0 x1) then (bif (decide ((0 : Int) ≤ (ixV x0 x1))) then (bif (decide ((0 : Int) ≤ (0 : Int)) && decide ((0 : Int) ≤ (ixV x0 x1)) && decide ((ixV x0 x1) ≤ (x0.length : Int))) then (bif (decide ((0 : Int) ≤ (w64 ((ixV x0 x1) + (x1.length : Int)))) && decide ((w64 ((ixV x0 x1) + (x1.length : Int))) ≤ (x0.length : Int)) && decide ((x0.length : Int) ≤ (x0.length : Int))) then some [⟨.str, (List.take (Int.toNat (ixV x0 x1) - Int.toNat 0) (List.drop (Int.toNat 0) x0))⟩, ⟨.str, (List.take (Int.toNat (x0.length : Int) - Int.toNat (w64 ((ixV x0 x1) + (x1.length : Int)))) (List.drop (Int.toNat (w64 ((ixV x0 x1) + (x1.length : Int)))) x0))⟩, ⟨.bool, true⟩] else none) else none) else some [⟨.str, x0⟩, ⟨.str, ([] : List UInt8)⟩, ⟨.bool, false⟩]) else none
theorem lcut_e (G : Nat → ASt E → Option (List (TV E))) (x0 : List UInt8) (x1 : List UInt8) : runE lcut_O lcut_H G Tryz.f192 [⟨.str, x0⟩, ⟨.str, x1⟩] = lcut_t G x0 x1 := by kernel_rfl
theorem lcut_f : Tryz.prog.funcs[192]? = some Tryz.f192 := by kernel_rfl
theorem lcut_n : (Tryz.f192.name == "runtime.NumGoroutine") = false := by kernel_rfl
theorem lcut_b : Tryz.f192.body.isNone = false := by kernel_rfl
theorem lcut_hO : OracleOk E lcut_O := orac_ok (.cons sindex_ok .nil) .nil .nil .nil
theorem lcut_ok_of (h : ∀ (x0 : List UInt8) (x1 : List UInt8), okIx x0 x1 = true → lcut_t (Gr E Tryz.f192 [⟨.str, cutA x0 x1⟩, ⟨.str, cutB x0 x1⟩, ⟨.bool, cutC x0 x1⟩]) x0 x1 = some [⟨.str, cutA x0 x1⟩, ⟨.str, cutB x0 x1⟩, ⟨.bool, cutC x0 x1⟩]) : FnOk E lcut_id lcut_W := fn23_ok lcut_hO mix lcut_f lcut_n lcut_b (fun x0 x1 hk => (lcut_e _ x0 x1).trans (h x0 x1 hk))
theorem lcut_ok : FnOk E lcut_id lcut_W := lcut_ok_of fun s p hk => by
  have hk' := hk
  simp only [okIx, Bool.and_eq_true, decide_eq_true_eq] at hk'
  obtain ⟨hs, hp⟩ := hk'
  simp only [lcut_t, hk, cond_true, cutA, cutB, cutC]
  rcases ix_ge s (p.headD 0) with h | ⟨i, h1, h2⟩
  · have h : ¬ 0 ≤ ixV s p := by unfold ixV; omega
    rw [dF h]; rfl
  · have e : ixV s p = (i : Int) := h1
    have e3 : w64 ((i : Int) + (p.length : Int)) = ((i + 1 : Nat) : Int) := by rw [hp, w64_id (by omega) (by omega)]; omega
    have c1 : List.take (Int.toNat (i : Int) - Int.toNat 0) (List.drop (Int.toNat 0) s) = s.take (Int.toNat (i : Int)) := by simp
    have c2 : List.take (Int.toNat (s.length : Int) - Int.toNat ((i + 1 : Nat) : Int)) (List.drop (Int.toNat ((i + 1 : Nat) : Int)) s) = s.drop (Int.toNat (i : Int) + 1) := by
      rw [Int.toNat_natCast, Int.toNat_natCast, Int.toNat_natCast]
      exact List.take_of_length_le (by rw [List.length_drop]; omega)
    rw [e, e3, c1, c2, dT (show (0 : Int) ≤ (i : Int) by omega), dT (show (i : Int) ≤ (s.length : Int) by omega), dT (show (0 : Int) ≤ ((i + 1 : Nat) : Int) by omega), dT (show ((i + 1 : Nat) : Int) ≤ (s.length : Int) by omega), dT (show (s.length : Int) ≤ (s.length : Int) by omega)]
    rfl
noncomputable def scut_W : FnW E := fn23 (E := E) .str .str .str .str .bool okIx cutA cutB cutC
def scut_id : FuncId := 144
noncomputable def scut_O : Oracle E := orac [(192, lcut_W)] [] [] []
noncomputable def scut_H : Hint E := Hint.mk [] [] [] [] [] 5 []
noncomputable def scut_t (_G : Nat → ASt E → Option (List (TV E))) (x0 x1 : List UInt8) : Option (List (TV E)) :=
  bif (okIx x0 x1) then some [⟨.str, (cutA x0 x1)⟩, ⟨.str, (cutB x0 x1)⟩, ⟨.bool, (cutC x0 x1)⟩] else none
theorem scut_e (G : Nat → ASt E → Option (List (TV E))) (x0 : List UInt8) (x1 : List UInt8) : runE scut_O scut_H G Tryz.f144 [⟨.str, x0⟩, ⟨.str, x1⟩] = scut_t G x0 x1 := by kernel_rfl
theorem scut_f : Tryz.prog.funcs[144]? = some Tryz.f144 := by kernel_rfl
theorem scut_n : (Tryz.f144.name == "runtime.NumGoroutine") = false := by kernel_rfl
theorem scut_b : Tryz.f144.body.isNone = false := by kernel_rfl
theorem scut_hO : OracleOk E scut_O := orac_ok (.cons lcut_ok .nil) .nil .nil .nil
theorem scut_ok_of (h : ∀ (x0 : List UInt8) (x1 : List UInt8), okIx x0 x1 = true → scut_t (Gr E Tryz.f144 [⟨.str, cutA x0 x1⟩, ⟨.str, cutB x0 x1⟩, ⟨.bool, cutC x0 x1⟩]) x0 x1 = some [⟨.str, cutA x0 x1⟩, ⟨.str, cutB x0 x1⟩, ⟨.bool, cutC x0 x1⟩]) : FnOk E scut_id scut_W := fn23_ok scut_hO mix scut_f scut_n scut_b (fun x0 x1 hk => (scut_e _ x0 x1).trans (h x0 x1 hk))
theorem scut_ok : FnOk E scut_id scut_W := scut_ok_of fun s p hk => by
  simp only [scut_t, hk, cond_true]
def okJn (l : List (List UInt8)) (sep : List UInt8) : Bool := decide (l.length ≤ 1000000) && decide ((Lib.join l sep).length ≤ 1000000000)
noncomputable def sjoin_W : FnW E := fn2 (E := E) .l_str .str .str okJn Lib.join
def sjoin_id : FuncId := 63
theorem sjoin_ok : FnOk E sjoin_id sjoin_W := fn2_kit ⟨Tryz.f63, by kernel_rfl, by kernel_rfl, by kernel_rfl⟩ fun l sep hk => by
  simp only [okJn, Bool.and_eq_true, decide_eq_true_eq] at hk
  obtain ⟨k1, k2⟩ := hk
  intro w ro vals hargs hrolt
  match vals, hargs with
  | [u, v], ⟨h1, h2, _⟩ =>
    rw [str_of h2]
    have hd : DRep E w ro u (.slice .str l) := by
      rcases h1 with ⟨ha, _⟩ | ⟨_, d, hd, hr⟩
      · cases ha
      · have hd : ([.slice .str l] : List (DVal E.Den)) = [d] := hd
        injection hd with hd _
        subst hd
        exact hr
    have none_ : ∀ (a : Option Addr) (c : Nat), l = [] → Calls Tryz.prog 63 [.slice a 0 c, .string ⟨sep.toArray⟩].toArray w fun e w' => ∃ v, e = .returned v ∧ Below w.heap.size w w' ∧ RetRep E w' (fun k o => ro k o ∨ (w.heap.size ≤ k ∧ k < w'.heap.size)) v [⟨.str, Lib.join l sep⟩] := fun a c hl => by
      subst hl
      refine (Tryz.strings_Join_none a c ⟨sep.toArray⟩ w).mono fun e w' he => ?_
      obtain ⟨he, rfl⟩ := he
      exact ⟨_, he, Below.refl _ _, .inr ⟨rfl, .str [], rfl, .str []⟩⟩
    obtain ⟨ad, cap, rfl, hs⟩ := hd.slice_inv
    rcases hs with rfl | ⟨g, off, rfl, hc, f, f1, f2⟩
    · exact none_ _ _ rfl
    · cases l with
      | nil => exact none_ _ _ rfl
      | cons x0 t =>
        have hcell : ∀ (i : Nat) x, (x0 :: t)[i]? = some x → ro g (off + i) ∧ w.cell? ⟨g, off + i, none⟩ = some (.string ⟨x.toArray⟩) := fun i x hx => by
          have g1 := f1 i x 0 (.str x) hx rfl
          have g2 := f2 i x 0 (.str x) hx rfl
          have e1 : f i 0 = .string ⟨x.toArray⟩ := by generalize f i 0 = u at g2; cases g2; rfl
          rw [show E.size .str = 1 from rfl, Nat.mul_one, Nat.add_zero, e1] at g1
          exact g1
        have hmap : (((x0 :: t).map fun x => (⟨x.toArray⟩ : ByteArray)).map (·.data.toList)) = x0 :: t := by
          rw [List.map_map]
          conv => rhs; rw [← List.map_id (x0 :: t)]
          exact List.map_congr_left fun y _ => by simp
        have hj := Tryz.strings_Join g off cap ((x0 :: t).map fun x => ⟨x.toArray⟩) ⟨sep.toArray⟩ w (fun j x hx => by
          rw [List.getElem?_map] at hx
          cases hq : (x0 :: t)[j]? with
          | none => rw [hq] at hx; cases hx
          | some y => rw [hq] at hx; cases hx; exact (hcell j y hq).2) (hrolt g _ (hcell 0 x0 rfl).1) (by rw [List.length_map]; omega) (by rw [List.length_map]; exact hc) (by rw [hmap]; show (Lib.join (x0 :: t) sep).length ≤ _; omega)
        rw [hmap, List.length_map] at hj
        refine hj.mono fun e w' he => ?_
        obtain ⟨he, hb⟩ := he
        exact ⟨_, he, hb, .inr ⟨rfl, .str (Lib.join (x0 :: t) sep), rfl, .str _⟩⟩
theorem i64_of {w : World} {ro : Nat → Nat → Prop} {u : Value} {x : Int} (h : TRep E w ro u .int x) : u = .int .i64 x := by
  rcases h with ⟨ha, _⟩ | ⟨_, d, hd, hr⟩
  · cases ha
  · have hd : ([.int .i64 x] : List (DVal E.Den)) = [d] := hd
    injection hd with hd _
    subst hd
    cases hr; rfl
theorem u8_of {w : World} {ro : Nat → Nat → Prop} {u : Value} {x : Int} (h : TRep E w ro u .byte x) : u = .int .u8 x := by
  rcases h with ⟨ha, _⟩ | ⟨_, d, hd, hr⟩
  · cases ha
  · have hd : ([.int .u8 x] : List (DVal E.Den)) = [d] := hd
    injection hd with hd _
    subst hd
    cases hr; rfl
def ixbV (s : List UInt8) (c : Int) : Int := Lib.indexByte s c.toNat.toUInt8
noncomputable def sidxb_W : FnW E := fn2 (E := E) .str .byte .int (fun _ _ => true) ixbV
def sidxb_id : FuncId := 205
theorem sidxb_ok : FnOk E sidxb_id sidxb_W := fn2_kit ⟨Tryz.f205, by kernel_rfl, by kernel_rfl, by kernel_rfl⟩ fun s c _ => by
  intro w ro vals hargs hrolt
  match vals, hargs with
  | [u, v], ⟨h1, h2, _⟩ =>
    rw [str_of h1, u8_of h2]
    refine (Tryz.strings_IndexByte ⟨s.toArray⟩ c w).mono fun e w' he => ?_
    obtain ⟨he, rfl⟩ := he
    exact ⟨_, he, Below.refl _ _, .inr ⟨rfl, .int .i64 (ixbV s c), rfl, .int .i64 _⟩⟩
def asc (s : List UInt8) : Bool := decide (s.length ≤ 1000000) && s.all fun b => decide (b.toNat < 128)
theorem asc_iff {s : List UInt8} (h : asc s = true) : s.length ≤ 1000000 ∧ ∀ (j : Nat) b, s[j]? = some b → b.toNat < 128 := by
  simp only [asc, Bool.and_eq_true, decide_eq_true_eq, List.all_eq_true] at h
  exact ⟨h.1, fun j b hb => h.2 b (List.mem_of_getElem? hb)⟩
noncomputable def sctn_W : FnW E := fn2 (E := E) .str .str .bool (fun s c => asc s && asc c) Lib.containsAny
def sctn_id : FuncId := 298
theorem sctn_ok : FnOk E sctn_id sctn_W := fn2_kit ⟨Tryz.f298, by kernel_rfl, by kernel_rfl, by kernel_rfl⟩ fun s c hk => by
  have hk : (asc s && asc c) = true := hk
  rw [Bool.and_eq_true] at hk
  obtain ⟨a1, a2⟩ := asc_iff hk.1
  obtain ⟨b1, b2⟩ := asc_iff hk.2
  intro w ro vals hargs hrolt
  match vals, hargs with
  | [u, v], ⟨h1, h2, _⟩ =>
    rw [str_of h1, str_of h2]
    refine (Tryz.strings_ContainsAny_laid ⟨s.toArray⟩ ⟨c.toArray⟩ w (by show s.toArray.size < _; rw [List.size_toArray]; omega) (by show c.toArray.size < _; rw [List.size_toArray]; omega) a2 b2).mono fun e w' he => ?_
    obtain ⟨he, hb⟩ := he
    exact ⟨_, he, hb, .inr ⟨rfl, .bool (Lib.containsAny s c), rfl, .bool _⟩⟩
def repV (s : List UInt8) (n : Int) : List UInt8 := Lib.repeatL s n.toNat
def okRep (s : List UInt8) (n : Int) : Bool := decide (0 < s.length) && (decide (0 ≤ n) && decide ((s.length : Int) * n ≤ 1000000))
noncomputable def srep_W : FnW E := fn2 (E := E) .str .int .str okRep repV
def srep_id : FuncId := 201
theorem srep_ok : FnOk E srep_id srep_W := fn2_kit ⟨Tryz.f201, by kernel_rfl, by kernel_rfl, by kernel_rfl⟩ fun s n hk => by
  simp only [okRep, Bool.and_eq_true, decide_eq_true_eq] at hk
  obtain ⟨h0, hn, hb⟩ := hk
  obtain ⟨m, rfl⟩ : ∃ m : Nat, n = (m : Int) := ⟨Int.toNat n, (Int.toNat_of_nonneg hn).symm⟩
  have hb : s.length * m ≤ 1000000 := by rw [← Int.natCast_mul] at hb; omega
  have hm : m ≤ 1000000 := Nat.le_trans (Nat.le_mul_of_pos_left m h0) hb
  intro w ro vals hargs hrolt
  match vals, hargs with
  | [u, v], ⟨h1, h2, _⟩ =>
    rw [str_of h1, i64_of h2]
    match m, hb, hm with
    | 0, _, _ =>
      refine (Tryz.strings_Repeat_zero ⟨s.toArray⟩ w).mono fun e w' he => ?_
      obtain ⟨he, rfl⟩ := he
      exact ⟨_, he, Below.refl _ _, .inr ⟨rfl, .str (repV s ((0 : Nat) : Int)), rfl, .str []⟩⟩
    | 1, _, _ =>
      refine (Tryz.strings_Repeat_one ⟨s.toArray⟩ w).mono fun e w' he => ?_
      obtain ⟨he, rfl⟩ := he
      refine ⟨_, he, Below.refl _ _, .inr ⟨rfl, .str (repV s ((1 : Nat) : Int)), rfl, ?_⟩⟩
      have : repV s ((1 : Nat) : Int) = s := by show s ++ [] = s; simp
      rw [this]
      exact .str s
    | k + 2, hb, hm =>
      refine (Tryz.strings_Repeat_main ⟨s.toArray⟩ (k + 2) w (by omega) (by omega) (by show s.toArray.size * _ ≤ _; rw [List.size_toArray]; omega) (by show 0 < s.toArray.size; rw [List.size_toArray]; exact h0)).mono fun e w' he => ?_
      obtain ⟨he, hb⟩ := he
      exact ⟨_, he, hb, .inr ⟨rfl, .str (repV s ((k + 2 : Nat) : Int)), rfl, .str _⟩⟩
theorem node_eta (x : Node) : (⟨x.kind, x.text, x.keys, x.kids⟩ : Node) = x := by cases x; rfl
def zn : Node := ⟨0, [], [], []⟩
def lk : List (List UInt8) → List Node → List UInt8 → Option Node
  | a :: t, v :: w, k => if k = a then some v else lk t w k
  | _, _, _ => none
def get (n : Node) (k : List UInt8) : Option Node := if n.kind = 3 then lk n.keys n.kids k else none
def getV (n : Node) (k : List UInt8) : Node := (get n k).getD zn
def getB (n : Node) (k : List UInt8) : Bool := (get n k).isSome
def fit (n : Node) : Bool := decide (n.keys.length ≤ 1000000) && decide (n.kids.length ≤ 1000000) && (n.kind != 3 || decide (n.keys.length = n.kids.length))
theorem fit_iff {n : Node} : fit n = true ↔ (n.keys.length ≤ 1000000 ∧ n.kids.length ≤ 1000000) ∧ (n.kind = 3 → n.keys.length = n.kids.length) := by
  simp only [fit, Bool.and_eq_true, Bool.or_eq_true, decide_eq_true_eq, bne_iff_ne]
  constructor
  · rintro ⟨h, h2⟩
    exact ⟨h, fun e => h2.resolve_left (fun h => h e)⟩
  · rintro ⟨h, h2⟩
    refine ⟨h, ?_⟩
    by_cases e : n.kind = 3
    · exact .inr (h2 e)
    · exact .inl e
def place (n : Node) (k : List UInt8) : Int := if n.kind = 3 then index n.keys k else -1
noncomputable def nplace_W : FnW E := fn2 (E := E) .api_Node .str .int (fun n _ => fit n) place
def nplace_id : FuncId := 120
noncomputable def nplace_O : Oracle E := orac [(166, nat_W)] [] [] []
noncomputable def nplace_H : Hint E := Hint.mk [] [] [] [] [] 5 []
noncomputable def nplace_t (_G : Nat → ASt E → Option (List (TV E))) (x0 : Node) (x1 : List UInt8) : Option (List (TV E)) :=
  bif (bif (x0.kind != (3 : Int)) then true else ((x0.keys.length : Int) != (x0.kids.length : Int))) then some [⟨.int, (-1 : Int)⟩] else (bif ((fun l _ => ln6 l) x0.keys x1) then some [⟨.int, (index x0.keys x1)⟩] else none)
theorem nplace_e (G : Nat → ASt E → Option (List (TV E))) (x0 : Node) (x1 : List UInt8) : runE nplace_O nplace_H G Tryz.f120 [⟨.api_Node, x0⟩, ⟨.str, x1⟩] = nplace_t G x0 x1 := by kernel_rfl
theorem nplace_f : Tryz.prog.funcs[120]? = some Tryz.f120 := by kernel_rfl
theorem nplace_n : (Tryz.f120.name == "runtime.NumGoroutine") = false := by kernel_rfl
theorem nplace_b : Tryz.f120.body.isNone = false := by kernel_rfl
theorem nplace_hO : OracleOk E nplace_O := orac_ok (.cons nat_ok .nil) .nil .nil .nil
theorem nplace_ok_of (h : ∀ (x0 : Node) (x1 : List UInt8), (fun n _ => fit n) x0 x1 = true → nplace_t (Gr E Tryz.f120 [⟨.int, place x0 x1⟩]) x0 x1 = some [⟨.int, place x0 x1⟩]) : FnOk E nplace_id nplace_W := fn2_ok nplace_hO mix nplace_f nplace_n nplace_b (fun x0 x1 hk => (nplace_e _ x0 x1).trans (h x0 x1 hk))
theorem nplace_ok : FnOk E nplace_id nplace_W := nplace_ok_of fun n k hk => by
  have hf := fit_iff.1 hk
  have h1 : ln6 n.keys = true := ln6_iff.2 hf.1.1
  unfold place
  by_cases h : n.kind = 3
  · rw [if_pos h]
    simp only [nplace_t, h1, cond_true, neF h, cond_false]
    rw [neF (by have := hf.2 h; omega), cond_false]
  · rw [if_neg h]
    simp only [nplace_t, neT h, cond_true]
theorem idx_lk : ∀ (keys : List (List UInt8)) (kids : List Node) (k : List UInt8) (i : Nat), keys.length = kids.length →
    (idxF k i keys = -1 ∧ lk keys kids k = none) ∨ ∃ (j : Nat) (h : j < kids.length), idxF k i keys = ((i + j : Nat) : Int) ∧ lk keys kids k = some kids[j]
  | [], [], k, i, _ => .inl ⟨rfl, rfl⟩
  | a :: t, v :: w, k, i, h => by
    unfold idxF lk
    by_cases e : k = a
    · rw [if_pos e, if_pos e]
      exact .inr ⟨0, by simp, by simp, rfl⟩
    · rw [if_neg e, if_neg e]
      rcases idx_lk t w k (i + 1) (by simpa using h) with h1 | ⟨j, hj, h1, h2⟩
      · exact .inl h1
      · exact .inr ⟨j + 1, by simpa using hj, by rw [h1]; omega, by simpa using h2⟩
  | [], _ :: _, _, _, h => by simp at h
  | _ :: _, [], _, _, h => by simp at h
noncomputable def nget_W : FnW E := fn22 (E := E) .api_Node .str .api_Node .bool (fun n _ => fit n) getV getB
def nget_id : FuncId := 101
noncomputable def nget_O : Oracle E := orac [(120, nplace_W)] [] [] []
noncomputable def nget_H : Hint E := Hint.mk [] [] [] [] [] 5 []
noncomputable def nget_t (_G : Nat → ASt E → Option (List (TV E))) (x0 : Node) (x1 : List UInt8) : Option (List (TV E)) :=
  bif ((fun n _ => fit n) (⟨x0.kind, x0.text, x0.keys, x0.kids⟩ : Node) x1) then (bif (decide ((place ⟨x0.kind, x0.text, x0.keys, x0.kids⟩ x1) < (0 : Int))) then some [⟨.api_Node, (⟨0, [], [], []⟩ : Node)⟩, ⟨.bool, false⟩] else (bif (decide ((0 : Int) ≤ (place ⟨x0.kind, x0.text, x0.keys, x0.kids⟩ x1)) && decide ((place ⟨x0.kind, x0.text, x0.keys, x0.kids⟩ x1) < (x0.kids.length : Int))) then some [⟨.api_Node, (⟨(List.getD x0.kids (Int.toNat (place ⟨x0.kind, x0.text, x0.keys, x0.kids⟩ x1)) (dflt .api_Node)).kind, (List.getD x0.kids (Int.toNat (place ⟨x0.kind, x0.text, x0.keys, x0.kids⟩ x1)) (dflt .api_Node)).text, (List.getD x0.kids (Int.toNat (place ⟨x0.kind, x0.text, x0.keys, x0.kids⟩ x1)) (dflt .api_Node)).keys, (List.getD x0.kids (Int.toNat (place ⟨x0.kind, x0.text, x0.keys, x0.kids⟩ x1)) (dflt .api_Node)).kids⟩ : Node)⟩, ⟨.bool, true⟩] else none)) else none
theorem nget_e (G : Nat → ASt E → Option (List (TV E))) (x0 : Node) (x1 : List UInt8) : runE nget_O nget_H G Tryz.f101 [⟨.api_Node, x0⟩, ⟨.str, x1⟩] = nget_t G x0 x1 := by kernel_rfl
theorem nget_f : Tryz.prog.funcs[101]? = some Tryz.f101 := by kernel_rfl
theorem nget_n : (Tryz.f101.name == "runtime.NumGoroutine") = false := by kernel_rfl
theorem nget_b : Tryz.f101.body.isNone = false := by kernel_rfl
theorem nget_hO : OracleOk E nget_O := orac_ok (.cons nplace_ok .nil) .nil .nil .nil
theorem nget_ok_of (h : ∀ (x0 : Node) (x1 : List UInt8), (fun n _ => fit n) x0 x1 = true → nget_t (Gr E Tryz.f101 [⟨.api_Node, getV x0 x1⟩, ⟨.bool, getB x0 x1⟩]) x0 x1 = some [⟨.api_Node, getV x0 x1⟩, ⟨.bool, getB x0 x1⟩]) : FnOk E nget_id nget_W := fn22_ok nget_hO mix nget_f nget_n nget_b (fun x0 x1 hk => (nget_e _ x0 x1).trans (h x0 x1 hk))
theorem nget_ok : FnOk E nget_id nget_W := nget_ok_of fun n k hk => by
  have hf := fit_iff.1 hk
  simp only [nget_t, node_eta, hk, cond_true]
  by_cases h : n.kind = 3
  · have hp : place n k = idxF k 0 n.keys := by unfold place index; rw [if_pos h]
    have hg : get n k = lk n.keys n.kids k := if_pos h
    unfold getV getB
    rw [hg, hp]
    rcases idx_lk n.keys n.kids k 0 (hf.2 h) with ⟨h1, h2⟩ | ⟨j, hj, h1, h2⟩
    · rw [h1, h2]; rfl
    · rw [h1, h2, Nat.zero_add, dF (by omega), cond_false, d0, dlt hj, Bool.and_self, cond_true, gd n.kids _ j hj]
      rfl
  · have hp : place n k = -1 := by unfold place; rw [if_neg h]
    have hg : get n k = none := if_neg h
    unfold getV getB
    rw [hg, hp]
    rfl
def sameW (f : Node → Node → Bool) : List Node → List Node → Bool
  | [], [] => true
  | a :: s, b :: t => f a b && sameW f s t
  | _, _ => false
def same : Nat → Node → Node → Bool
  | 0, _, _ => false
  | n + 1, a, b => a.kind == b.kind && (a.text == b.text && (a.keys == b.keys && sameW (same n) a.kids b.kids))
def dp : Nat → Node → Bool
  | 0, _ => false
  | n + 1, x => decide (x.keys.length ≤ 1000000) && decide (x.kids.length ≤ 1000000) && x.kids.all (dp n)
theorem dp_iff {n : Nat} {x : Node} : dp (n + 1) x = true ↔ (x.keys.length ≤ 1000000 ∧ x.kids.length ≤ 1000000) ∧ ∀ y ∈ x.kids, dp n y = true := by
  simp only [dp, Bool.and_eq_true, decide_eq_true_eq, List.all_eq_true]
def okS (n : Nat) (a b : Node) : Bool := dp n a && dp n b
def okE (n : Nat) (a b : List Node) (f : Nat) : Bool := decide (f = 103) && (decide (a.length ≤ 1000000) && (a.all (dp n) && b.all (dp n)))
def sameL (n : Nat) (a b : List Node) (_ : Nat) : Bool := sameW (same n) a b
noncomputable def nsame_W (n : Nat) : FnW E := fn2 (E := E) .api_Node .api_Node .bool (okS n) (same n)
def nsame_id : FuncId := 103
noncomputable def eqf_W (n : Nat) : FnW E := fn3 (E := E) .l_api_Node .l_api_Node .fn164 .bool (okE n) (sameL n)
def eqf_id : FuncId := 136
noncomputable def eqf_O (n : Nat) : Oracle E := orac [(103, nsame_W n)] [] [] []
noncomputable def eqf_H : Hint E := Hint.mk [(0, [1, 2, 15, 16, 17])] [] [] [] [] 5 []
noncomputable def eqf_C0 (v0 v1 : List Node) (v2 v3 : Int) : ASt E := ASt.mk 32 [(1, .d (.slice .api_Node v0)), (2, .d (.raw (.func (.func 103) #[] #[]))), (15, .d (.slice .api_Node v1)), (16, .d (.int .i64 v2)), (17, .d (.int .i64 v3))] [] 0
noncomputable def eqf_t (_n : Nat) (G : Nat → ASt E → Option (List (TV E))) (x0 x1 : List Node) : Option (List (TV E)) :=
  bif ((x0.length : Int) != (x1.length : Int)) then some [⟨.bool, false⟩] else G 0 (eqf_C0 x1 x0 (x0.length : Int) 0)
theorem eqf_e (n : Nat) (G : Nat → ASt E → Option (List (TV E))) (x0 : List Node) (x1 : List Node) : runE (eqf_O n) eqf_H G Tryz.f136 [⟨.l_api_Node, x0⟩, ⟨.l_api_Node, x1⟩, ⟨.fn164, 103⟩] = eqf_t n G x0 x1 := by kernel_rfl
noncomputable def eqf_t0 (n : Nat) (G : Nat → ASt E → Option (List (TV E))) (v0 v1 : List Node) (v2 v3 : Int) : Option (List (TV E)) :=
  bif (decide (v3 < v2)) then (bif (decide ((0 : Int) ≤ v3) && decide (v3 < (v1.length : Int))) then (bif (decide ((0 : Int) ≤ v3) && decide (v3 < (v0.length : Int))) then (bif ((okS n) (⟨(List.getD v1 (Int.toNat v3) (dflt .api_Node)).kind, (List.getD v1 (Int.toNat v3) (dflt .api_Node)).text, (List.getD v1 (Int.toNat v3) (dflt .api_Node)).keys, (List.getD v1 (Int.toNat v3) (dflt .api_Node)).kids⟩ : Node) (⟨(List.getD v0 (Int.toNat v3) (dflt .api_Node)).kind, (List.getD v0 (Int.toNat v3) (dflt .api_Node)).text, (List.getD v0 (Int.toNat v3) (dflt .api_Node)).keys, (List.getD v0 (Int.toNat v3) (dflt .api_Node)).kids⟩ : Node)) then (bif (!((same n) (⟨(List.getD v1 (Int.toNat v3) (dflt .api_Node)).kind, (List.getD v1 (Int.toNat v3) (dflt .api_Node)).text, (List.getD v1 (Int.toNat v3) (dflt .api_Node)).keys, (List.getD v1 (Int.toNat v3) (dflt .api_Node)).kids⟩ : Node) (⟨(List.getD v0 (Int.toNat v3) (dflt .api_Node)).kind, (List.getD v0 (Int.toNat v3) (dflt .api_Node)).text, (List.getD v0 (Int.toNat v3) (dflt .api_Node)).keys, (List.getD v0 (Int.toNat v3) (dflt .api_Node)).kids⟩ : Node))) then some [⟨.bool, false⟩] else G 0 (eqf_C0 v0 v1 v2 (w64 (v3 + (1 : Int))))) else none) else none) else none) else some [⟨.bool, true⟩]
theorem eqf_l0 (n : Nat) (G : Nat → ASt E → Option (List (TV E))) (v0 v1 : List Node) (v2 v3 : Int) : runL (eqf_O n) eqf_H G Tryz.f136 0 (eqf_C0 v0 v1 v2 v3) = eqf_t0 n G v0 v1 v2 v3 := by kernel_rfl
theorem eqf_f : Tryz.prog.funcs[136]? = some Tryz.f136 := by kernel_rfl
theorem eqf_n : (Tryz.f136.name == "runtime.NumGoroutine") = false := by kernel_rfl
theorem eqf_b : Tryz.f136.body.isNone = false := by kernel_rfl
theorem eqf_hO (n : Nat) (ih : FnOk E nsame_id (nsame_W n)) : OracleOk E (eqf_O n) := orac_ok (.cons ih .nil) .nil .nil .nil
theorem eqf_s0 (n : Nat) (ih : FnOk E nsame_id (nsame_W n)) {res : List (TV E)} {v0 v1 : List Node} {v2 v3 : Int} (h : eqf_t0 n (Gr E Tryz.f136 res) v0 v1 v2 v3 = some res) : Ev E Tryz.f136 res 0 (eqf_C0 v0 v1 v2 v3) := Ev.step (eqf_hO n ih) mix ((eqf_l0 n _ v0 v1 v2 v3).trans h)
theorem eqf_ok_of (n : Nat) (ih : FnOk E nsame_id (nsame_W n)) (hs2 : ∀ (x0 : List Node) (x1 : List Node) (x2 : Nat), (okE n) x0 x1 x2 = true → x2 = 103) (h : ∀ (x0 : List Node) (x1 : List Node), (okE n) x0 x1 103 = true → eqf_t n (Gr E Tryz.f136 [⟨.bool, (sameL n) x0 x1 103⟩]) x0 x1 = some [⟨.bool, (sameL n) x0 x1 103⟩]) : FnOk E eqf_id (eqf_W n) := fn3_ok (eqf_hO n ih) mix eqf_f eqf_n eqf_b (fun x0 x1 x2 hk => by have e2 := hs2 x0 x1 x2 hk; subst e2; exact (eqf_e n _ x0 x1).trans (h x0 x1 hk))
theorem eqf_loop (n : Nat) (ih : FnOk E nsame_id (nsame_W n)) (a b : List Node) (ha : a.length ≤ 1000000) (hab : a.length = b.length) (hda : ∀ x ∈ a, dp n x = true) (hdb : ∀ x ∈ b, dp n x = true) : ∀ (m i : Nat), a.length - i = m → i ≤ a.length →
    Ev E Tryz.f136 [⟨.bool, sameW (same n) (a.drop i) (b.drop i)⟩] 0 (eqf_C0 b a a.length i) := by
  intro m
  induction m with
  | zero =>
    intro i h1 h2
    refine eqf_s0 n ih ?_
    simp only [eqf_t0, dge (show a.length ≤ i by omega), cond_false, List.drop_eq_nil_of_le (show a.length ≤ i by omega), List.drop_eq_nil_of_le (show b.length ≤ i by omega)]
    rfl
  | succ m ih2 =>
    intro i h1 h2
    have hi : i < a.length := by omega
    have hj : i < b.length := by omega
    have hok : okS n a[i] b[i] = true := by simp only [okS, hda _ (List.getElem_mem hi), hdb _ (List.getElem_mem hj), Bool.and_self]
    refine eqf_s0 n ih ?_
    simp only [eqf_t0, dlt hi, dlt hj, d0, gd a _ i hi, gd b _ i hj, Bool.and_self, cond_true, node_eta, hok]
    rw [← List.getElem_cons_drop hi, ← List.getElem_cons_drop hj, w64_id (by omega) (by omega)]
    simp only [sameW]
    cases same n a[i] b[i] with
    | false => rfl
    | true =>
      simp only [Bool.not_true, cond_false, Bool.true_and]
      exact Gr_of (ih2 (i + 1) (by omega) (by omega))
theorem sameW_len {f : Node → Node → Bool} : ∀ {a b : List Node}, a.length ≠ b.length → sameW f a b = false
  | [], [], h => absurd rfl h
  | a :: s, b :: t, h => by
    unfold sameW
    rw [sameW_len (a := s) (b := t) (by simpa using h), Bool.and_false]
  | [], _ :: _, _ => rfl
  | _ :: _, [], _ => rfl
theorem eqf_ok (n : Nat) (ih : FnOk E nsame_id (nsame_W n)) : FnOk E eqf_id (eqf_W n) := eqf_ok_of n ih (fun a b f hk => by
    simp only [okE, Bool.and_eq_true, decide_eq_true_eq] at hk
    exact hk.1) fun a b hk => by
  simp only [okE, Bool.and_eq_true, decide_eq_true_eq, List.all_eq_true] at hk
  simp only [eqf_t, sameL]
  by_cases h : a.length = b.length
  · rw [neF (by omega), cond_false]
    have := eqf_loop n ih a b hk.2.1 h hk.2.2.1 hk.2.2.2 a.length 0 (by omega) (by omega)
    rw [List.drop_zero, List.drop_zero] at this
    exact Gr_of this
  · rw [neT (by omega), cond_true, sameW_len h]
noncomputable def nsame_O (n : Nat) : Oracle E := orac [(136, eqf_W n), (109, equal_W)] [] [] []
noncomputable def nsame_H : Hint E := Hint.mk [] [] [] [] [] 5 []
noncomputable def nsame_t (n : Nat) (_G : Nat → ASt E → Option (List (TV E))) (x0 x1 : Node) : Option (List (TV E)) :=
  bif (((fun a _ => ln6 a) x0.keys x1.keys) || !(bif (x0.kind == x1.kind) then (x0.text == x1.text) else false)) then (bif (((okE n) x0.kids x1.kids 103) || !(bif (bif (x0.kind == x1.kind) then (x0.text == x1.text) else false) then (equal x0.keys x1.keys) else false)) then some [⟨.bool, (bif (bif (bif (x0.kind == x1.kind) then (x0.text == x1.text) else false) then (equal x0.keys x1.keys) else false) then ((sameL n) x0.kids x1.kids 103) else false)⟩] else none) else none
theorem nsame_e (n : Nat) (G : Nat → ASt E → Option (List (TV E))) (x0 : Node) (x1 : Node) : runE (nsame_O n) nsame_H G Tryz.f103 [⟨.api_Node, x0⟩, ⟨.api_Node, x1⟩] = nsame_t n G x0 x1 := by kernel_rfl
theorem nsame_f : Tryz.prog.funcs[103]? = some Tryz.f103 := by kernel_rfl
theorem nsame_n : (Tryz.f103.name == "runtime.NumGoroutine") = false := by kernel_rfl
theorem nsame_b : Tryz.f103.body.isNone = false := by kernel_rfl
theorem nsame_ex : ∃ fn, Tryz.prog.funcs[103]? = some fn ∧ (fn.name == "runtime.NumGoroutine") = false ∧ fn.body.isNone = false := ⟨Tryz.f103, nsame_f, nsame_n, nsame_b⟩
theorem nsame_hO (n : Nat) (ih : FnOk E nsame_id (nsame_W n)) : OracleOk E (nsame_O n) := orac_ok (.cons (eqf_ok n ih) (.cons equal_ok .nil)) .nil .nil .nil
theorem nsame_ok_of (n : Nat) (ih : FnOk E nsame_id (nsame_W n)) (h : ∀ (x0 : Node) (x1 : Node), (okS (n + 1)) x0 x1 = true → nsame_t n (Gr E Tryz.f103 [⟨.bool, (same (n + 1)) x0 x1⟩]) x0 x1 = some [⟨.bool, (same (n + 1)) x0 x1⟩]) : FnOk E nsame_id (nsame_W (n + 1)) := fn2_ok (nsame_hO n ih) mix nsame_f nsame_n nsame_b (fun x0 x1 hk => (nsame_e n _ x0 x1).trans (h x0 x1 hk))
theorem nsame_step (n : Nat) (ih : FnOk E nsame_id (nsame_W n)) : FnOk E nsame_id (nsame_W (n + 1)) := nsame_ok_of n ih fun a b hk => by
  simp only [okS, Bool.and_eq_true] at hk
  obtain ⟨ha, ha2⟩ := dp_iff.1 hk.1
  obtain ⟨hb, hb2⟩ := dp_iff.1 hk.2
  have hl : ln6 a.keys = true := ln6_iff.2 ha.1
  have hE : okE n a.kids b.kids 103 = true := by
    simp only [okE, Bool.and_eq_true, decide_eq_true_eq, List.all_eq_true]
    exact ⟨trivial, ha.2, ha2, hb2⟩
  simp only [nsame_t, hl, hE, Bool.true_or, cond_true, same, sameL, equal]
  cases a.kind == b.kind <;> cases a.text == b.text <;> cases a.keys == b.keys <;> rfl
theorem nsame_ok (n : Nat) : FnOk E nsame_id (nsame_W n) := by
  induction n with
  | zero => exact fn2_bot nsame_ex fun x y => rfl
  | succ n ih => exact nsame_step n ih
def wg (B : Nat) : Nat → Node → Bool
  | 0, _ => false
  | n + 1, x => decide (x.keys.length ≤ B) && decide (x.kids.length ≤ B) && (x.kind != 3 || decide (x.keys.length = x.kids.length)) && x.kids.all (wg B n)
theorem wg_iff {B n : Nat} {x : Node} : wg B (n + 1) x = true ↔ x.keys.length ≤ B ∧ x.kids.length ≤ B ∧ (x.kind = 3 → x.keys.length = x.kids.length) ∧ ∀ y ∈ x.kids, wg B n y = true := by
  simp only [wg, Bool.and_eq_true, Bool.or_eq_true, decide_eq_true_eq, bne_iff_ne, List.all_eq_true]
  constructor
  · rintro ⟨⟨⟨h1, h2⟩, h3⟩, h6⟩
    exact ⟨h1, h2, fun e => h3.resolve_left (fun h => h e), h6⟩
  · rintro ⟨h1, h2, h3, h6⟩
    refine ⟨⟨⟨h1, h2⟩, ?_⟩, h6⟩
    by_cases e : x.kind = 3
    · exact .inr (h3 e)
    · exact .inl e
theorem wg_fit {B n : Nat} {x : Node} (h : wg B (n + 1) x = true) (hB : B ≤ 1000000) : fit x = true := by
  have := wg_iff.1 h
  exact fit_iff.2 ⟨⟨by omega, by omega⟩, this.2.2.1⟩
theorem lk_mem : ∀ {keys : List (List UInt8)} {kids : List Node} {k : List UInt8} {x : Node}, lk keys kids k = some x → x ∈ kids
  | a :: t, v :: w, k, x, h => by
    unfold lk at h
    split at h
    · cases h; exact List.mem_cons_self
    · exact List.mem_cons_of_mem _ (lk_mem h)
  | [], _, _, _, h => by cases h
  | _ :: _, [], _, _, h => by cases h
theorem lk_some : ∀ {keys : List (List UInt8)} {kids : List Node} {k : List UInt8}, keys.length = kids.length → k ∈ keys → ∃ x, lk keys kids k = some x
  | a :: t, v :: w, k, hl, h => by
    unfold lk
    by_cases e : k = a
    · exact ⟨v, if_pos e⟩
    · rw [if_neg e]
      exact lk_some (by simpa using hl) ((List.mem_cons.1 h).resolve_left e)
  | [], _, _, _, h => by cases h
  | _ :: _, [], _, hl, _ => by simp at hl
theorem getV_mem {a : Node} {k : List UInt8} (h : getB a k = true) : getV a k ∈ a.kids := by
  unfold getB at h
  unfold getV
  cases hg : get a k with
  | none => rw [hg] at h; cases h
  | some x =>
    unfold get at hg
    split at hg
    · exact lk_mem hg
    · cases hg
theorem getB_g {B n : Nat} {a : Node} {k : List UInt8} (ha : wg B (n + 1) a = true) (h3 : a.kind = 3) (hk : k ∈ a.keys) : getB a k = true := by
  obtain ⟨x, hx⟩ := lk_some ((wg_iff.1 ha).2.2.1 h3) hk
  unfold getB get
  rw [if_pos h3, hx]
  rfl
theorem wg_get {B n : Nat} {a : Node} {k : List UInt8} (ha : wg B (n + 1) a = true) (h : getB a k = true) : wg B n (getV a k) = true := (wg_iff.1 ha).2.2.2 _ (getV_mem h)
def txt1 (s : List UInt8) : Node := ⟨1, s, [], []⟩
noncomputable def ntext_W : FnW E := fn1 (E := E) .str .api_Node (fun _ => true) txt1
def ntext_id : FuncId := 98
noncomputable def ntext_O : Oracle E := orac [] [] [] []
noncomputable def ntext_H : Hint E := Hint.mk [] [] [] [] [] 5 []
noncomputable def ntext_t (_G : Nat → ASt E → Option (List (TV E))) (x0 : List UInt8) : Option (List (TV E)) :=
  some [⟨.api_Node, (⟨1, x0, [], []⟩ : Node)⟩]
theorem ntext_e (G : Nat → ASt E → Option (List (TV E))) (x0 : List UInt8) : runE ntext_O ntext_H G Tryz.f98 [⟨.str, x0⟩] = ntext_t G x0 := by kernel_rfl
theorem ntext_f : Tryz.prog.funcs[98]? = some Tryz.f98 := by kernel_rfl
theorem ntext_n : (Tryz.f98.name == "runtime.NumGoroutine") = false := by kernel_rfl
theorem ntext_b : Tryz.f98.body.isNone = false := by kernel_rfl
theorem ntext_hO : OracleOk E ntext_O := orac_ok .nil .nil .nil .nil
theorem ntext_ok_of (h : ∀ (x0 : List UInt8), ntext_t (Gr E Tryz.f98 [⟨.api_Node, txt1 x0⟩]) x0 = some [⟨.api_Node, txt1 x0⟩]) : FnOk E ntext_id ntext_W := fn1_ok ntext_hO mix ntext_f ntext_n ntext_b (fun x0 _ => (ntext_e _ x0).trans (h x0))
theorem ntext_ok : FnOk E ntext_id ntext_W := ntext_ok_of fun s => rfl
theorem idxF_lt (s : List UInt8) : ∀ (l : List (List UInt8)) (i : Nat), idxF s i l < (i : Int) + (l.length : Int)
  | [], i => by simp only [idxF, List.length_nil]; omega
  | a :: t, i => by
    unfold idxF
    split
    · simp only [List.length_cons]; omega
    · have := idxF_lt s t (i + 1)
      simp only [List.length_cons]; omega
def okWp (n : Node) (_ : List UInt8) (_ : Node) : Bool := fit ⟨3, [], n.keys, n.kids⟩
def withP (n : Node) (k : List UInt8) (v : Node) : Node := bif (bif n.kind != 3 then n.kind != 0 else false) then n else bif decide (0 ≤ index n.keys k) then ⟨3, [], n.keys, n.kids.set (index n.keys k).toNat v⟩ else ⟨3, [], n.keys ++ [k], n.kids ++ [v]⟩
noncomputable def nwith_W : FnW E := fn3 (E := E) .api_Node .str .api_Node .api_Node okWp withP
def nwith_id : FuncId := 96
noncomputable def nwith_O : Oracle E := orac [(120, nplace_W)] [(119, cloneF 98), (21, cloneF 9)] [] []
noncomputable def nwith_H : Hint E := Hint.mk [] [] [] [] [] 5 []
noncomputable def nwith_t (_G : Nat → ASt E → Option (List (TV E))) (x0 : Node) (x1 : List UInt8) (x2 : Node) : Option (List (TV E)) :=
  bif (bif (x0.kind != (3 : Int)) then (x0.kind != (0 : Int)) else false) then some [⟨.api_Node, (⟨x0.kind, x0.text, x0.keys, x0.kids⟩ : Node)⟩] else (bif (decide (x0.keys.length * 16 ≤ maxBytes)) then (bif (decide (x0.kids.length * 72 ≤ maxBytes)) then (bif ((fun n _ => fit n) (⟨3, [], x0.keys, x0.kids⟩ : Node) x1) then (bif (decide ((0 : Int) ≤ (place ⟨3, [], x0.keys, x0.kids⟩ x1))) then (bif (decide ((0 : Int) ≤ (place ⟨3, [], x0.keys, x0.kids⟩ x1)) && decide ((place ⟨3, [], x0.keys, x0.kids⟩ x1) < (x0.kids.length : Nat))) then some [⟨.api_Node, (⟨3, [], x0.keys, (List.set x0.kids (Int.toNat (place ⟨3, [], x0.keys, x0.kids⟩ x1)) (⟨x2.kind, x2.text, x2.keys, x2.kids⟩ : Node))⟩ : Node)⟩] else none) else (bif (decide ((x0.keys.length + ([x1] : List (List UInt8)).length) * 16 ≤ maxBytes)) then (bif (decide ((x0.kids.length + ([(⟨x2.kind, x2.text, x2.keys, x2.kids⟩ : Node)] : List Node).length) * 72 ≤ maxBytes)) then some [⟨.api_Node, (⟨3, [], (x0.keys ++ ([x1] : List (List UInt8))), (x0.kids ++ ([(⟨x2.kind, x2.text, x2.keys, x2.kids⟩ : Node)] : List Node))⟩ : Node)⟩] else none) else none)) else none) else none) else none)
theorem nwith_e (G : Nat → ASt E → Option (List (TV E))) (x0 : Node) (x1 : List UInt8) (x2 : Node) : runE nwith_O nwith_H G Tryz.f96 [⟨.api_Node, x0⟩, ⟨.str, x1⟩, ⟨.api_Node, x2⟩] = nwith_t G x0 x1 x2 := by kernel_rfl
theorem nwith_f : Tryz.prog.funcs[96]? = some Tryz.f96 := by kernel_rfl
theorem nwith_n : (Tryz.f96.name == "runtime.NumGoroutine") = false := by kernel_rfl
theorem nwith_b : Tryz.f96.body.isNone = false := by kernel_rfl
theorem nwith_hO : OracleOk E nwith_O := orac_ok (.cons nplace_ok .nil) (.cons (clone_fresh (T := 96) (b := 4) (e := 98) (fn := Tryz.f119) (by kernel_rfl) (by kernel_rfl) (by kernel_rfl) (by kernel_rfl) (by kernel_rfl) (by kernel_rfl)) (.cons (clone_fresh (T := 23) (b := 4) (e := 9) (fn := Tryz.f21) (by kernel_rfl) (by kernel_rfl) (by kernel_rfl) (by kernel_rfl) (by kernel_rfl) (by kernel_rfl)) .nil)) .nil .nil
theorem nwith_ok_of (h : ∀ (x0 : Node) (x1 : List UInt8) (x2 : Node), okWp x0 x1 x2 = true → nwith_t (Gr E Tryz.f96 [⟨.api_Node, withP x0 x1 x2⟩]) x0 x1 x2 = some [⟨.api_Node, withP x0 x1 x2⟩]) : FnOk E nwith_id nwith_W := fn3_ok nwith_hO mix nwith_f nwith_n nwith_b (fun x0 x1 x2 hk => (nwith_e _ x0 x1 x2).trans (h x0 x1 x2 hk))
theorem nwith_ok : FnOk E nwith_id nwith_W := nwith_ok_of fun n k v hk => by
  have hk' : fit ⟨3, [], n.keys, n.kids⟩ = true := hk
  obtain ⟨⟨h1, h2⟩, h3⟩ := fit_iff.1 hk'
  have h1 : n.keys.length ≤ 1000000 := h1
  have h2 : n.kids.length ≤ 1000000 := h2
  have h3 : n.keys.length = n.kids.length := h3 rfl
  have ep : place ⟨3, [], n.keys, n.kids⟩ k = index n.keys k := if_pos rfl
  have hlt : index n.keys k < (n.keys.length : Int) := by have := idxF_lt k n.keys 0; unfold index; omega
  have b1 : decide (n.keys.length * 16 ≤ maxBytes) = true := dT (by rw [mb]; omega)
  have b2 : decide (n.kids.length * 72 ≤ maxBytes) = true := dT (by rw [mb]; omega)
  have b3 : decide ((n.keys.length + [k].length) * 16 ≤ maxBytes) = true := dT (by rw [mb, List.length_singleton]; omega)
  have b4 : decide ((n.kids.length + [v].length) * 72 ≤ maxBytes) = true := dT (by rw [mb, List.length_singleton]; omega)
  simp only [nwith_t, withP, node_eta, hk', ep, b1, b2, b3, b4, cond_true]
  cases (bif n.kind != 3 then n.kind != 0 else false) with
  | true => rfl
  | false =>
    simp only [cond_false]
    by_cases h0 : 0 ≤ index n.keys k
    · rw [dT h0, dT (show index n.keys k < (n.kids.length : Int) by omega)]; rfl
    · rw [dF h0]; rfl
def sortP : Nat → Node → Node
  | 0, x => x
  | n + 1, x => bif (x.kids.length : Int) == 0 then x else bif x.kind != 3 then ⟨x.kind, x.text, [], x.kids.map (sortP n)⟩ else ⟨x.kind, x.text, Pl.sortD x.keys, (Pl.sortD x.keys).map fun k => sortP n (getV x k)⟩
noncomputable def ndsorted_W (n : Nat) : FnW E := fn1 (E := E) .api_Node .api_Node (wg 10000 n) (sortP n)
def ndsorted_id : FuncId := 77
noncomputable def ndsorted_O (n : Nat) : Oracle E := orac [(30, nsorted_W), (101, nget_W), (77, ndsorted_W n)] [] [] []
noncomputable def ndsorted_H : Hint E := Hint.mk [(0, [2, 3, 24, 25, 26]), (1, [1, 2, 3, 44, 45, 46])] [] [(0, [(3, some 3, true, .api_Node)]), (1, [(3, some 3, true, .api_Node)])] [] [] 5 []
noncomputable def ndsorted_C0 (v0 : List Node) (v1 v2 v3 : Int) (v4 : List UInt8) (v5 : Int) (v6 : List UInt8) (v7 : List Node) : ASt E := ASt.mk 65 [(2, .ptr 0 0), (3, .ptr 1 0), (24, .d (.slice .api_Node v0)), (25, .d (.int .i64 v1)), (26, .d (.int .i64 v2))] [(0, .box [.d (.int .i64 v3), .d (.str v4), .d (.raw (.slice none 0 0)), .d (.raw (.slice none 0 0))]), (1, .box [.d (.int .i64 v5), .d (.str v6), .d (.raw (.slice none 0 0)), .grow .api_Node v7 2]), (2, .tail true)] 3
noncomputable def ndsorted_C1 (v0 : List (List UInt8)) (v1 v2 v3 : Int) (v4 : List UInt8) (v5 : List (List UInt8)) (v6 : List Node) (v7 : Int) (v8 : List UInt8) (v9 : Int) (v10 : List UInt8) (v11 : List (List UInt8)) (v12 : List Node) : ASt E := ASt.mk 65 [(1, .ptr 0 0), (2, .ptr 1 0), (3, .ptr 2 0), (44, .d (.slice .str v0)), (45, .d (.int .i64 v1)), (46, .d (.int .i64 v2))] [(0, .box [.d (.int .i64 v3), .d (.str v4), .d (.slice .str v5), .d (.slice .api_Node v6)]), (1, .box [.d (.int .i64 v7), .d (.str v8), .d (.raw (.slice none 0 0)), .d (.raw (.slice none 0 0))]), (2, .box [.d (.int .i64 v9), .d (.str v10), .d (.slice .str v11), .grow .api_Node v12 3]), (3, .tail true)] 4
noncomputable def ndsorted_t (_n : Nat) (G : Nat → ASt E → Option (List (TV E))) (x0 : Node) : Option (List (TV E)) :=
  bif ((x0.kids.length : Int) == (0 : Int)) then some [⟨.api_Node, (⟨x0.kind, x0.text, x0.keys, x0.kids⟩ : Node)⟩] else (bif (x0.kind != (3 : Int)) then G 0 (ndsorted_C0 x0.kids (x0.kids.length : Int) 0 0 [] x0.kind x0.text []) else (bif (ln6 x0.keys) then G 1 (ndsorted_C1 (Pl.sortD x0.keys) ((Pl.sortD x0.keys).length : Int) 0 x0.kind x0.text x0.keys x0.kids 0 [] x0.kind x0.text (Pl.sortD x0.keys) []) else none))
theorem ndsorted_e (n : Nat) (G : Nat → ASt E → Option (List (TV E))) (x0 : Node) : runE (ndsorted_O n) ndsorted_H G Tryz.f77 [⟨.api_Node, x0⟩] = ndsorted_t n G x0 := by kernel_rfl
noncomputable def ndsorted_t0 (n : Nat) (G : Nat → ASt E → Option (List (TV E))) (v0 : List Node) (v1 v2 v3 : Int) (v4 : List UInt8) (v5 : Int) (v6 : List UInt8) (v7 : List Node) : Option (List (TV E)) :=
  bif (decide (v2 < v1)) then (bif (decide ((0 : Int) ≤ v2) && decide (v2 < (v0.length : Int))) then (bif ((wg 10000 n) (⟨(List.getD v0 (Int.toNat v2) (dflt .api_Node)).kind, (List.getD v0 (Int.toNat v2) (dflt .api_Node)).text, (List.getD v0 (Int.toNat v2) (dflt .api_Node)).keys, (List.getD v0 (Int.toNat v2) (dflt .api_Node)).kids⟩ : Node)) then (bif (decide ((v7.length + ([((sortP n) (⟨(List.getD v0 (Int.toNat v2) (dflt .api_Node)).kind, (List.getD v0 (Int.toNat v2) (dflt .api_Node)).text, (List.getD v0 (Int.toNat v2) (dflt .api_Node)).keys, (List.getD v0 (Int.toNat v2) (dflt .api_Node)).kids⟩ : Node))] : List Node).length) * 72 ≤ maxBytes)) then G 0 (ndsorted_C0 v0 v1 (w64 (v2 + (1 : Int))) v3 v4 v5 v6 (v7 ++ ([((sortP n) (⟨(List.getD v0 (Int.toNat v2) (dflt .api_Node)).kind, (List.getD v0 (Int.toNat v2) (dflt .api_Node)).text, (List.getD v0 (Int.toNat v2) (dflt .api_Node)).keys, (List.getD v0 (Int.toNat v2) (dflt .api_Node)).kids⟩ : Node))] : List Node))) else none) else none) else none) else some [⟨.api_Node, (⟨v5, v6, [], v7⟩ : Node)⟩]
theorem ndsorted_l0 (n : Nat) (G : Nat → ASt E → Option (List (TV E))) (v0 : List Node) (v1 v2 v3 : Int) (v4 : List UInt8) (v5 : Int) (v6 : List UInt8) (v7 : List Node) : runL (ndsorted_O n) ndsorted_H G Tryz.f77 0 (ndsorted_C0 v0 v1 v2 v3 v4 v5 v6 v7) = ndsorted_t0 n G v0 v1 v2 v3 v4 v5 v6 v7 := by kernel_rfl
noncomputable def ndsorted_t1 (n : Nat) (G : Nat → ASt E → Option (List (TV E))) (v0 : List (List UInt8)) (v1 v2 v3 : Int) (v4 : List UInt8) (v5 : List (List UInt8)) (v6 : List Node) (v7 : Int) (v8 : List UInt8) (v9 : Int) (v10 : List UInt8) (v11 : List (List UInt8)) (v12 : List Node) : Option (List (TV E)) :=
  bif (decide (v2 < v1)) then (bif (decide ((0 : Int) ≤ v2) && decide (v2 < (v0.length : Int))) then (bif ((fun n _ => fit n) (⟨v3, v4, v5, v6⟩ : Node) (List.getD v0 (Int.toNat v2) (dflt .str))) then (bif ((wg 10000 n) (⟨(getV ⟨v3, v4, v5, v6⟩ (List.getD v0 (Int.toNat v2) (dflt .str))).kind, (getV ⟨v3, v4, v5, v6⟩ (List.getD v0 (Int.toNat v2) (dflt .str))).text, (getV ⟨v3, v4, v5, v6⟩ (List.getD v0 (Int.toNat v2) (dflt .str))).keys, (getV ⟨v3, v4, v5, v6⟩ (List.getD v0 (Int.toNat v2) (dflt .str))).kids⟩ : Node)) then (bif (decide ((v12.length + ([((sortP n) (⟨(getV ⟨v3, v4, v5, v6⟩ (List.getD v0 (Int.toNat v2) (dflt .str))).kind, (getV ⟨v3, v4, v5, v6⟩ (List.getD v0 (Int.toNat v2) (dflt .str))).text, (getV ⟨v3, v4, v5, v6⟩ (List.getD v0 (Int.toNat v2) (dflt .str))).keys, (getV ⟨v3, v4, v5, v6⟩ (List.getD v0 (Int.toNat v2) (dflt .str))).kids⟩ : Node))] : List Node).length) * 72 ≤ maxBytes)) then G 1 (ndsorted_C1 v0 v1 (w64 (v2 + (1 : Int))) v3 v4 v5 v6 v7 v8 v9 v10 v11 (v12 ++ ([((sortP n) (⟨(getV ⟨v3, v4, v5, v6⟩ (List.getD v0 (Int.toNat v2) (dflt .str))).kind, (getV ⟨v3, v4, v5, v6⟩ (List.getD v0 (Int.toNat v2) (dflt .str))).text, (getV ⟨v3, v4, v5, v6⟩ (List.getD v0 (Int.toNat v2) (dflt .str))).keys, (getV ⟨v3, v4, v5, v6⟩ (List.getD v0 (Int.toNat v2) (dflt .str))).kids⟩ : Node))] : List Node))) else none) else none) else none) else none) else some [⟨.api_Node, (⟨v9, v10, v11, v12⟩ : Node)⟩]
theorem ndsorted_l1 (n : Nat) (G : Nat → ASt E → Option (List (TV E))) (v0 : List (List UInt8)) (v1 v2 v3 : Int) (v4 : List UInt8) (v5 : List (List UInt8)) (v6 : List Node) (v7 : Int) (v8 : List UInt8) (v9 : Int) (v10 : List UInt8) (v11 : List (List UInt8)) (v12 : List Node) : runL (ndsorted_O n) ndsorted_H G Tryz.f77 1 (ndsorted_C1 v0 v1 v2 v3 v4 v5 v6 v7 v8 v9 v10 v11 v12) = ndsorted_t1 n G v0 v1 v2 v3 v4 v5 v6 v7 v8 v9 v10 v11 v12 := by kernel_rfl
theorem ndsorted_f : Tryz.prog.funcs[77]? = some Tryz.f77 := by kernel_rfl
theorem ndsorted_n : (Tryz.f77.name == "runtime.NumGoroutine") = false := by kernel_rfl
theorem ndsorted_b : Tryz.f77.body.isNone = false := by kernel_rfl
theorem ndsorted_ex : ∃ fn, Tryz.prog.funcs[77]? = some fn ∧ (fn.name == "runtime.NumGoroutine") = false ∧ fn.body.isNone = false := ⟨Tryz.f77, ndsorted_f, ndsorted_n, ndsorted_b⟩
theorem ndsorted_hO (n : Nat) (ih : FnOk E ndsorted_id (ndsorted_W n)) : OracleOk E (ndsorted_O n) := orac_ok (.cons nsorted_ok (.cons nget_ok (.cons ih .nil))) .nil .nil .nil
theorem ndsorted_s0 (n : Nat) (ih : FnOk E ndsorted_id (ndsorted_W n)) {res : List (TV E)} {v0 : List Node} {v1 v2 v3 : Int} {v4 : List UInt8} {v5 : Int} {v6 : List UInt8} {v7 : List Node} (h : ndsorted_t0 n (Gr E Tryz.f77 res) v0 v1 v2 v3 v4 v5 v6 v7 = some res) : Ev E Tryz.f77 res 0 (ndsorted_C0 v0 v1 v2 v3 v4 v5 v6 v7) := Ev.step (ndsorted_hO n ih) mix ((ndsorted_l0 n _ v0 v1 v2 v3 v4 v5 v6 v7).trans h)
theorem ndsorted_s1 (n : Nat) (ih : FnOk E ndsorted_id (ndsorted_W n)) {res : List (TV E)} {v0 : List (List UInt8)} {v1 v2 v3 : Int} {v4 : List UInt8} {v5 : List (List UInt8)} {v6 : List Node} {v7 : Int} {v8 : List UInt8} {v9 : Int} {v10 : List UInt8} {v11 : List (List UInt8)} {v12 : List Node} (h : ndsorted_t1 n (Gr E Tryz.f77 res) v0 v1 v2 v3 v4 v5 v6 v7 v8 v9 v10 v11 v12 = some res) : Ev E Tryz.f77 res 1 (ndsorted_C1 v0 v1 v2 v3 v4 v5 v6 v7 v8 v9 v10 v11 v12) := Ev.step (ndsorted_hO n ih) mix ((ndsorted_l1 n _ v0 v1 v2 v3 v4 v5 v6 v7 v8 v9 v10 v11 v12).trans h)
theorem ndsorted_ok_of (n : Nat) (ih : FnOk E ndsorted_id (ndsorted_W n)) (h : ∀ (x0 : Node), (wg 10000 (n + 1)) x0 = true → ndsorted_t n (Gr E Tryz.f77 [⟨.api_Node, (sortP (n + 1)) x0⟩]) x0 = some [⟨.api_Node, (sortP (n + 1)) x0⟩]) : FnOk E ndsorted_id (ndsorted_W (n + 1)) := fn1_ok (ndsorted_hO n ih) mix ndsorted_f ndsorted_n ndsorted_b (fun x0 hk => (ndsorted_e n _ x0).trans (h x0 hk))
theorem ndsorted_1 (n : Nat) (ih : FnOk E ndsorted_id (ndsorted_W n)) (x : Node) (hx : wg 10000 (n + 1) x = true) (h3 : x.kind = 3) (ks : List (List UInt8)) (hks : ks.length ≤ 10000) (hm : ∀ k ∈ ks, k ∈ x.keys) (u0 : Int) (u1 : List UInt8) (v0 : Int) (v1 : List UInt8) (v2 : List (List UInt8)) :
    ∀ (m i : Nat) (ov : List Node), ks.length - i = m → i ≤ ks.length → ov.length = i →
      Ev E Tryz.f77 [⟨.api_Node, (⟨v0, v1, v2, ov ++ (ks.drop i).map fun k => sortP n (getV x k)⟩ : Node)⟩] 1 (ndsorted_C1 ks ks.length i x.kind x.text x.keys x.kids u0 u1 v0 v1 v2 ov) := by
  have fx := wg_fit hx (by decide)
  intro m
  induction m with
  | zero =>
    intro i ov h1 h2 h4
    refine ndsorted_s1 n ih ?_
    simp only [ndsorted_t1, dge (show ks.length ≤ i by omega), cond_false, List.drop_eq_nil_of_le (show ks.length ≤ i by omega), List.append_nil, List.map_nil]
  | succ m ih2 =>
    intro i ov h1 h2 h4
    have hi : i < ks.length := by omega
    have e2 : ∀ v : Node, decide ((ov.length + [v].length) * 72 ≤ maxBytes) = true := fun v => dT (by rw [mb, List.length_singleton]; omega)
    have e3 : w64 ((i : Int) + 1) = ((i + 1 : Nat) : Int) := by rw [w64_id (by omega) (by omega)]; omega
    have hw : wg 10000 n (getV x ks[i]) = true := wg_get hx (getB_g hx h3 (hm _ (List.getElem_mem hi)))
    refine ndsorted_s1 n ih ?_
    simp only [ndsorted_t1, dlt hi, d0, gd ks _ i hi, Bool.and_self, cond_true, node_eta, fx, hw, e2, e3]
    have := Gr_of (ih2 (i + 1) (ov ++ [sortP n (getV x ks[i])]) (by omega) (by omega) (by simp [h4]))
    rw [← List.getElem_cons_drop hi, List.map_cons]
    rw [List.append_assoc] at this
    exact this
theorem ndsorted_0 (n : Nat) (ih : FnOk E ndsorted_id (ndsorted_W n)) (l : List Node) (hl : l.length ≤ 10000) (hw : ∀ y ∈ l, wg 10000 n y = true) (u0 : Int) (u1 : List UInt8) (v0 : Int) (v1 : List UInt8) :
    ∀ (m i : Nat) (ov : List Node), l.length - i = m → i ≤ l.length → ov.length = i →
      Ev E Tryz.f77 [⟨.api_Node, (⟨v0, v1, [], ov ++ (l.drop i).map (sortP n)⟩ : Node)⟩] 0 (ndsorted_C0 l l.length i u0 u1 v0 v1 ov) := by
  intro m
  induction m with
  | zero =>
    intro i ov h1 h2 h4
    refine ndsorted_s0 n ih ?_
    simp only [ndsorted_t0, dge (show l.length ≤ i by omega), cond_false, List.drop_eq_nil_of_le (show l.length ≤ i by omega), List.append_nil, List.map_nil]
  | succ m ih2 =>
    intro i ov h1 h2 h4
    have hi : i < l.length := by omega
    have e2 : ∀ v : Node, decide ((ov.length + [v].length) * 72 ≤ maxBytes) = true := fun v => dT (by rw [mb, List.length_singleton]; omega)
    have e3 : w64 ((i : Int) + 1) = ((i + 1 : Nat) : Int) := by rw [w64_id (by omega) (by omega)]; omega
    refine ndsorted_s0 n ih ?_
    simp only [ndsorted_t0, dlt hi, d0, gd l _ i hi, Bool.and_self, cond_true, node_eta, hw _ (List.getElem_mem hi), e2, e3]
    have := Gr_of (ih2 (i + 1) (ov ++ [sortP n l[i]]) (by omega) (by omega) (by simp [h4]))
    rw [← List.getElem_cons_drop hi, List.map_cons]
    rw [List.append_assoc] at this
    exact this
theorem ndsorted_ok (n : Nat) : FnOk E ndsorted_id (ndsorted_W n) := by
  induction n with
  | zero => exact fn1_bot ndsorted_ex fun x => rfl
  | succ n ih =>
    refine ndsorted_ok_of n ih fun x hk => ?_
    have hw := wg_iff.1 hk
    have h6 : ln6 x.keys = true := ln6_iff.2 (by omega)
    simp only [ndsorted_t, sortP, node_eta, h6, cond_true]
    by_cases h0 : (x.kids.length : Int) = 0
    · rw [eqT h0]; rfl
    · rw [eqF h0, cond_false, cond_false]
      by_cases h3 : x.kind = 3
      · rw [neF h3, cond_false, cond_false]
        have hs := Pl.sortD_len x.keys
        have := Gr_of (ndsorted_1 n ih x hk h3 (Pl.sortD x.keys) (by omega) (fun k hk => Pl.sortD_mem.1 hk) 0 [] x.kind x.text (Pl.sortD x.keys) _ 0 [] rfl (Nat.zero_le _) rfl)
        rw [List.drop_zero] at this
        exact this
      · rw [neT h3, cond_true, cond_true]
        have := Gr_of (ndsorted_0 n ih x.kids hw.2.1 hw.2.2.2 0 [] x.kind x.text _ 0 [] rfl (Nat.zero_le _) rfl)
        rw [List.drop_zero] at this
        exact this
def ln6k {α : Type} (l : List α) : Bool := Nat.ble l.length 1000000
theorem ln6k_eq {α : Type} (l : List α) : ln6 l = ln6k l := by
  unfold ln6 ln6k
  cases h : Nat.ble l.length 1000000 with
  | true => exact decide_eq_true (Nat.le_of_ble_eq_true h)
  | false => exact decide_eq_false fun h' => by rw [Nat.ble_eq_true_of_le h'] at h; cases h
noncomputable def nsortedk_W : FnW E := fn1 (E := E) .l_str .l_str ln6k Pl.ksortD
def nsortedk_id : FuncId := 30
theorem nsortedk_ok : FnOk E nsortedk_id nsortedk_W := by
  have h := nsorted_ok
  unfold nsorted_W at h
  rw [show Pl.sortD = Pl.ksortD from funext Pl.ksortD_eq, show (ln6 : List (List UInt8) → Bool) = ln6k from funext ln6k_eq] at h
  exact h
theorem idxF_k (s : List UInt8) : ∀ (i : Nat) (l : List (List UInt8)), idxF s i l = Pl.kidx s i l
  | _, [] => rfl
  | i, a :: t => by
    unfold idxF Pl.kidx
    rw [Pl.eqB_iff, idxF_k s (i + 1) t]
    by_cases h : s = a <;> simp [h]
def indexk (l : List (List UInt8)) (s : List UInt8) : Int := Pl.kidx s 0 l
theorem index_k : index = indexk := funext fun l => funext fun s => idxF_k s 0 l
noncomputable def indexk_W : FnW E := fn2 (E := E) .l_str .str .int (fun l _ => ln6k l) indexk
def indexk_id : FuncId := 37
theorem indexk_ok : FnOk E indexk_id indexk_W := by
  have h := index_ok
  unfold index_W at h
  rw [index_k, show (fun (l : List (List UInt8)) (_ : List UInt8) => ln6 l) = (fun l _ => ln6k l) from funext fun l => funext fun _ => ln6k_eq l] at h
  exact h
def sortK : Nat → Node → Node
  | 0, x => x
  | n + 1, x => bif (x.kids.length : Int) == 0 then x else bif x.kind != 3 then ⟨x.kind, x.text, [], x.kids.map (sortK n)⟩ else ⟨x.kind, x.text, Pl.ksortD x.keys, (Pl.ksortD x.keys).map fun k => sortK n (getV x k)⟩
theorem sortK_eq : ∀ n, sortP n = sortK n
  | 0 => rfl
  | n + 1 => by
    funext x
    unfold sortP sortK
    rw [sortK_eq n, Pl.ksortD_eq]
noncomputable def ndsortk_W : FnW E := fn1 (E := E) .api_Node .api_Node (wg 10000 30) (sortK 30)
def ndsortk_id : FuncId := 77
theorem ndsortk_ok : FnOk E ndsortk_id ndsortk_W := by
  have h := ndsorted_ok 30
  unfold ndsorted_W at h
  rw [sortK_eq] at h
  exact h
noncomputable def nsamek_W : FnW E := fn2 (E := E) .api_Node .api_Node .bool (okS 30) (same 30)
def nsamek_id : FuncId := 103
theorem nsamek_ok : FnOk E nsamek_id nsamek_W := nsame_ok 30
end Go.Proofs.YtoibjelpldfpfaaGreatDoor.Rf
namespace Go.Proofs.YtoibjelpldfpfaaGreatDoor.Rf
open Go Go.RowKit Go.Sort Go.Proofs.YtoibjelpldfpfaaGreatDoor.Mir
mutual
noncomputable def sprm_m0 : Nat → Int → List Int → Int → Option ((List Int))
  | 0, _, _, _ => none
  | f + 1, v0, v1, v2 => let y3 : Int := (v1.length : Int); bif (decide (y3 < v0)) then (let y4 : Int := (v1.length : Int); sprm_m1 f v0 v1 v2 v1 y4 (0 : Int)) else (some (v1))
noncomputable def sprm_m1 : Nat → Int → List Int → Int → List Int → Int → Int → Option ((List Int))
  | 0, _, _, _, _, _, _ => none
  | f + 1, v0, v1, v2, v3, v4, v5 => bif (decide (v5 < v4)) then (bif (decide ((0 : Int) ≤ v5) && decide (v5 < (v3.length : Int))) then (bif (!((List.getD v3 (Int.toNat v5) (dflt .int)) == (0 : Int))) then (bif ((Int.tmod v2 (List.getD v3 (Int.toNat v5) (dflt .int))) == (0 : Int)) then (sprm_m0 f v0 v1 (w64 (v2 + (1 : Int)))) else (sprm_m1 f v0 v1 v2 v3 v4 (w64 (v5 + (1 : Int))))) else (none)) else (none)) else (bif (decide ((v1.length + ([v2] : List Int).length) * 8 ≤ maxBytes)) then (sprm_m0 f v0 (v1 ++ ([v2] : List Int)) (w64 (v2 + (1 : Int)))) else (none))
end
noncomputable def sprm_m (x0 : Int) : Option ((List Int)) := bif (decide ((100 : Int) < x0)) then (some (([] : List Int))) else (sprm_m0 1000000000 x0 ([] : List Int) (2 : Int))
noncomputable def sprm_k (x0 : Int) : Bool := (sprm_m x0).isSome
noncomputable def sprm_r0 (x0 : Int) : List Int := ((sprm_m x0).getD (dflt .l_int))
noncomputable def sprm_W : FnW E := fn1 (E := E) .int .l_int sprm_k sprm_r0
def sprm_id : FuncId := 156
noncomputable def sprm_O : Oracle E := orac [] [] [] []
noncomputable def sprm_H : Hint E := Hint.mk [(0, [0, 3, 4]), (1, [0, 3, 4, 16, 17, 18])] [] [(0, [(3, none, true, .int)])] [] [] 5 []
noncomputable def sprm_C0 (v0 : Int) (v1 : List Int) (v2 : Int) : ASt E := ASt.mk 32 [(0, .d (.int .i64 v0)), (3, .grow .int v1 0), (4, .d (.int .i64 v2))] [(0, .tail true)] 1
noncomputable def sprm_C1 (v0 : Int) (v1 : List Int) (v2 : Int) (v3 : List Int) (v4 v5 : Int) : ASt E := ASt.mk 32 [(0, .d (.int .i64 v0)), (3, .grow .int v1 0), (4, .d (.int .i64 v2)), (16, .grow .int v3 0), (17, .d (.int .i64 v4)), (18, .d (.int .i64 v5))] [(0, .tail true)] 1
noncomputable def sprm_t (G : Nat → ASt E → Option (List (TV E))) (x0 : Int) : Option (List (TV E)) :=
  bif (decide ((100 : Int) < x0)) then some [⟨.l_int, ([] : List Int)⟩] else G 0 (sprm_C0 x0 ([] : List Int) 2)
theorem sprm_e (G : Nat → ASt E → Option (List (TV E))) (x0 : Int) : runE sprm_O sprm_H G Tryz.f156 [⟨.int, x0⟩] = sprm_t G x0 := by kernel_rfl
noncomputable def sprm_t0 (G : Nat → ASt E → Option (List (TV E))) (v0 : Int) (v1 : List Int) (v2 : Int) : Option (List (TV E)) :=
  let y3 : Int := (v1.length : Int); bif (decide (y3 < v0)) then (let y4 : Int := (v1.length : Int); G 1 (sprm_C1 v0 v1 v2 v1 y4 0)) else some [⟨.l_int, v1⟩]
theorem sprm_l0 (G : Nat → ASt E → Option (List (TV E))) (v0 : Int) (v1 : List Int) (v2 : Int) : runL sprm_O sprm_H G Tryz.f156 0 (sprm_C0 v0 v1 v2) = sprm_t0 G v0 v1 v2 := by kernel_rfl
noncomputable def sprm_t1 (G : Nat → ASt E → Option (List (TV E))) (v0 : Int) (v1 : List Int) (v2 : Int) (v3 : List Int) (v4 v5 : Int) : Option (List (TV E)) :=
  bif (decide (v5 < v4)) then (bif (decide ((0 : Int) ≤ v5) && decide (v5 < (v3.length : Int))) then (bif (!((List.getD v3 (Int.toNat v5) (dflt .int)) == (0 : Int))) then (bif ((Int.tmod v2 (List.getD v3 (Int.toNat v5) (dflt .int))) == (0 : Int)) then G 0 (sprm_C0 v0 v1 (w64 (v2 + (1 : Int)))) else G 1 (sprm_C1 v0 v1 v2 v3 v4 (w64 (v5 + (1 : Int))))) else none) else none) else (bif (decide ((v1.length + ([v2] : List Int).length) * 8 ≤ maxBytes)) then G 0 (sprm_C0 v0 (v1 ++ ([v2] : List Int)) (w64 (v2 + (1 : Int)))) else none)
theorem sprm_l1 (G : Nat → ASt E → Option (List (TV E))) (v0 : Int) (v1 : List Int) (v2 : Int) (v3 : List Int) (v4 v5 : Int) : runL sprm_O sprm_H G Tryz.f156 1 (sprm_C1 v0 v1 v2 v3 v4 v5) = sprm_t1 G v0 v1 v2 v3 v4 v5 := by kernel_rfl
theorem sprm_f : Tryz.prog.funcs[156]? = some Tryz.f156 := by kernel_rfl
theorem sprm_n : (Tryz.f156.name == "runtime.NumGoroutine") = false := by kernel_rfl
theorem sprm_b : Tryz.f156.body.isNone = false := by kernel_rfl
theorem sprm_hO : OracleOk E sprm_O := orac_ok .nil .nil .nil .nil
theorem sprm_s0 {res : List (TV E)} {v0 : Int} {v1 : List Int} {v2 : Int} (h : sprm_t0 (Gr E Tryz.f156 res) v0 v1 v2 = some res) : Ev E Tryz.f156 res 0 (sprm_C0 v0 v1 v2) := Ev.step sprm_hO mix ((sprm_l0 _ v0 v1 v2).trans h)
theorem sprm_s1 {res : List (TV E)} {v0 : Int} {v1 : List Int} {v2 : Int} {v3 : List Int} {v4 v5 : Int} (h : sprm_t1 (Gr E Tryz.f156 res) v0 v1 v2 v3 v4 v5 = some res) : Ev E Tryz.f156 res 1 (sprm_C1 v0 v1 v2 v3 v4 v5) := Ev.step sprm_hO mix ((sprm_l1 _ v0 v1 v2 v3 v4 v5).trans h)
theorem sprm_ok_of (h : ∀ (x0 : Int), sprm_k x0 = true → sprm_t (Gr E Tryz.f156 [⟨.l_int, sprm_r0 x0⟩]) x0 = some [⟨.l_int, sprm_r0 x0⟩]) : FnOk E sprm_id sprm_W := fn1_ok sprm_hO mix sprm_f sprm_n sprm_b (fun x0 hk => (sprm_e _ x0).trans (h x0 hk))
theorem sprm_v (f : Nat) : (∀ (v0 : Int) (v1 : List Int) (v2 : Int) (r : (List Int)), sprm_m0 f v0 v1 v2 = some r → Ev E Tryz.f156 [⟨.l_int, r⟩] 0 (sprm_C0 v0 v1 v2)) ∧ (∀ (v0 : Int) (v1 : List Int) (v2 : Int) (v3 : List Int) (v4 : Int) (v5 : Int) (r : (List Int)), sprm_m1 f v0 v1 v2 v3 v4 v5 = some r → Ev E Tryz.f156 [⟨.l_int, r⟩] 1 (sprm_C1 v0 v1 v2 v3 v4 v5)) := by
  induction f with
  | zero => exact ⟨(fun _ _ _ _ h => by cases h), (fun _ _ _ _ _ _ _ h => by cases h)⟩
  | succ f ih =>
    obtain ⟨ih0, ih1⟩ := ih
    exact ⟨(fun v0 v1 v2 r h => sprm_s0 (by unfold sprm_m0 at h; unfold sprm_t0; exact (bif2 h (fun h => (Gr_of (ih1 _ _ _ _ _ _ _ h))) fun h => (by have h := Option.some.inj h; subst h; exact rfl)))), (fun v0 v1 v2 v3 v4 v5 r h => sprm_s1 (by unfold sprm_m1 at h; unfold sprm_t1; exact (bif2 h (fun h => (bif2 h (fun h => (bif2 h (fun h => (bif2 h (fun h => (Gr_of (ih0 _ _ _ _ h))) fun h => (Gr_of (ih1 _ _ _ _ _ _ _ h)))) fun h => (by cases h))) fun h => (by cases h))) fun h => (bif2 h (fun h => (Gr_of (ih0 _ _ _ _ h))) fun h => (by cases h)))))⟩
theorem sprm_ok : FnOk E sprm_id sprm_W := sprm_ok_of fun x0 hk => by
  have h := some_of (d := (dflt .l_int)) hk
  unfold sprm_t
  generalize hr : (sprm_m x0).getD (dflt .l_int) = r at h
  rw [show sprm_r0 x0 = r from hr];
  unfold sprm_m at h
  exact (bif2 h (fun h => (by have h := Option.some.inj h; subst h; exact rfl)) fun h => (Gr_of ((sprm_v _).1 _ _ _ _ h)))
end Go.Proofs.YtoibjelpldfpfaaGreatDoor.Rf
