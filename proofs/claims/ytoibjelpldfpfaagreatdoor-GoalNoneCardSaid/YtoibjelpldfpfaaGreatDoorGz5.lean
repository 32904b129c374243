/- Part 5 of a proof: the texts G1x, one behind the other. -/
import Derived.Test.YtoibjelpldfpfaaGreatDoorGz4
namespace Go.Proofs.YtoibjelpldfpfaaGreatDoor.Rf
open Go Go.RowKit Go.Sort Go.Proofs.YtoibjelpldfpfaaGreatDoor.Mir
noncomputable def d121_m (x0 : Node) (x1 : List UInt8) (x2 : List UInt8) : Option (Node) := bif (x2 == ([] : List UInt8)) then (some ((⟨x0.kind, x0.text, x0.keys, x0.kids⟩ : Node))) else (bif (okWp (⟨x0.kind, x0.text, x0.keys, x0.kids⟩ : Node) x1 (txt1 x2)) then (let y1 : Node := (withP (⟨x0.kind, x0.text, x0.keys, x0.kids⟩ : Node) x1 (txt1 x2)); some ((⟨y1.kind, y1.text, y1.keys, y1.kids⟩ : Node))) else (none))
noncomputable def d121_k (x0 : Node) (x1 : List UInt8) (x2 : List UInt8) : Bool := (d121_m x0 x1 x2).isSome
noncomputable def d121_r0 (x0 : Node) (x1 : List UInt8) (x2 : List UInt8) : Node := ((d121_m x0 x1 x2).getD (dflt .api_Node))
noncomputable def d121_W : FnW E := fn3 (E := E) .api_Node .str .str .api_Node d121_k d121_r0
def d121_id : FuncId := 121
noncomputable def d121_O : Oracle E := orac [(98, ntext_W), (96, nwith_W)] [] [] []
noncomputable def d121_H : Hint E := Hint.mk [] [] [] [] [] 5 []
noncomputable def d121_t (_G : Nat → ASt E → Option (List (TV E))) (x0 : Node) (x1 x2 : List UInt8) : Option (List (TV E)) :=
  bif (x2 == ([] : List UInt8)) then some [⟨.api_Node, (⟨x0.kind, x0.text, x0.keys, x0.kids⟩ : Node)⟩] else (bif (okWp ⟨x0.kind, x0.text, x0.keys, x0.kids⟩ x1 (txt1 x2)) then (let y1 : Node := (withP ⟨x0.kind, x0.text, x0.keys, x0.kids⟩ x1 (txt1 x2)); some [⟨.api_Node, (⟨y1.kind, y1.text, y1.keys, y1.kids⟩ : Node)⟩]) else none)
theorem d121_e (G : Nat → ASt E → Option (List (TV E))) (x0 : Node) (x1 : List UInt8) (x2 : List UInt8) : runE d121_O d121_H G Tryz.f121 [⟨.api_Node, x0⟩, ⟨.str, x1⟩, ⟨.str, x2⟩] = d121_t G x0 x1 x2 := by kernel_rfl
theorem d121_f : Tryz.prog.funcs[121]? = some Tryz.f121 := by kernel_rfl
theorem d121_n : (Tryz.f121.name == "runtime.NumGoroutine") = false := by kernel_rfl
theorem d121_b : Tryz.f121.body.isNone = false := by kernel_rfl
theorem d121_hO : OracleOk E d121_O := orac_ok (.cons ntext_ok (.cons nwith_ok .nil)) .nil .nil .nil
theorem d121_ok_of (h : ∀ (x0 : Node) (x1 : List UInt8) (x2 : List UInt8), d121_k x0 x1 x2 = true → d121_t (Gr E Tryz.f121 [⟨.api_Node, d121_r0 x0 x1 x2⟩]) x0 x1 x2 = some [⟨.api_Node, d121_r0 x0 x1 x2⟩]) : FnOk E d121_id d121_W := fn3_ok d121_hO mix d121_f d121_n d121_b (fun x0 x1 x2 hk => (d121_e _ x0 x1 x2).trans (h x0 x1 x2 hk))
theorem d121_ok : FnOk E d121_id d121_W := d121_ok_of fun x0 x1 x2 hk => by
  have h := some_of (d := (dflt .api_Node)) hk
  unfold d121_t
  generalize hr : (d121_m x0 x1 x2).getD (dflt .api_Node) = r at h
  rw [show d121_r0 x0 x1 x2 = r from hr];
  unfold d121_m at h
  exact (bif2 h (fun h => (by have h := Option.some.inj h; subst h; exact rfl)) fun h => (bif2 h (fun h => (by have h := Option.some.inj h; subst h; exact rfl)) fun h => (by cases h)))
noncomputable def d167_m (x0 : Bool) : Option ((List UInt8)) := bif x0 then (some (([116, 114, 117, 101] : List UInt8))) else (some (([102, 97, 108, 115, 101] : List UInt8)))
noncomputable def d167_k (x0 : Bool) : Bool := (d167_m x0).isSome
noncomputable def d167_r0 (x0 : Bool) : List UInt8 := ((d167_m x0).getD (dflt .str))
noncomputable def d167_W : FnW E := fn1 (E := E) .bool .str d167_k d167_r0
def d167_id : FuncId := 167
noncomputable def d167_O : Oracle E := orac [] [] [] []
noncomputable def d167_H : Hint E := Hint.mk [] [] [] [] [] 5 []
noncomputable def d167_t (_G : Nat → ASt E → Option (List (TV E))) (x0 : Bool) : Option (List (TV E)) :=
  bif x0 then some [⟨.str, ([116, 114, 117, 101] : List UInt8)⟩] else some [⟨.str, ([102, 97, 108, 115, 101] : List UInt8)⟩]
theorem d167_e (G : Nat → ASt E → Option (List (TV E))) (x0 : Bool) : runE d167_O d167_H G Tryz.f167 [⟨.bool, x0⟩] = d167_t G x0 := by kernel_rfl
theorem d167_f : Tryz.prog.funcs[167]? = some Tryz.f167 := by kernel_rfl
theorem d167_n : (Tryz.f167.name == "runtime.NumGoroutine") = false := by kernel_rfl
theorem d167_b : Tryz.f167.body.isNone = false := by kernel_rfl
theorem d167_hO : OracleOk E d167_O := orac_ok .nil .nil .nil .nil
theorem d167_ok_of (h : ∀ (x0 : Bool), d167_k x0 = true → d167_t (Gr E Tryz.f167 [⟨.str, d167_r0 x0⟩]) x0 = some [⟨.str, d167_r0 x0⟩]) : FnOk E d167_id d167_W := fn1_ok d167_hO mix d167_f d167_n d167_b (fun x0 hk => (d167_e _ x0).trans (h x0 hk))
theorem d167_ok : FnOk E d167_id d167_W := d167_ok_of fun x0 hk => by
  have h := some_of (d := (dflt .str)) hk
  unfold d167_t
  generalize hr : (d167_m x0).getD (dflt .str) = r at h
  rw [show d167_r0 x0 = r from hr];
  unfold d167_m at h
  exact (bif2 h (fun h => (by have h := Option.some.inj h; subst h; exact rfl)) fun h => (by have h := Option.some.inj h; subst h; exact rfl))
noncomputable def d127_m (x0 : Int) : Option (Arr185) := bif (x0 == (0 : Int)) then (some ((⟨([] : List UInt8), ([115, 101, 114, 118, 105, 99, 101, 95, 115, 116, 97, 114, 116, 101, 100] : List UInt8), ([115, 101, 114, 118, 105, 99, 101, 95, 104, 101, 97, 108, 116, 104, 121] : List UInt8), ([115, 101, 114, 118, 105, 99, 101, 95, 99, 111, 109, 112, 108, 101, 116, 101, 100, 95, 115, 117, 99, 99, 101, 115, 115, 102, 117, 108, 108, 121] : List UInt8)⟩ : Arr185))) else (some ((⟨([110, 111] : List UInt8), ([97, 108, 119, 97, 121, 115] : List UInt8), ([111, 110, 45, 102, 97, 105, 108, 117, 114, 101] : List UInt8), ([117, 110, 108, 101, 115, 115, 45, 115, 116, 111, 112, 112, 101, 100] : List UInt8)⟩ : Arr185)))
noncomputable def d127_k (x0 : Int) : Bool := (d127_m x0).isSome
noncomputable def d127_r0 (x0 : Int) : Arr185 := ((d127_m x0).getD (dflt .a4_str))
noncomputable def d127_W : FnW E := fn1 (E := E) .int .a4_str d127_k d127_r0
def d127_id : FuncId := 127
noncomputable def d127_O : Oracle E := orac [] [] [] []
noncomputable def d127_H : Hint E := Hint.mk [] [] [] [] [] 5 []
noncomputable def d127_t (_G : Nat → ASt E → Option (List (TV E))) (x0 : Int) : Option (List (TV E)) :=
  bif (x0 == (0 : Int)) then some [⟨.a4_str, (⟨[], [115, 101, 114, 118, 105, 99, 101, 95, 115, 116, 97, 114, 116, 101, 100], [115, 101, 114, 118, 105, 99, 101, 95, 104, 101, 97, 108, 116, 104, 121], [115, 101, 114, 118, 105, 99, 101, 95, 99, 111, 109, 112, 108, 101, 116, 101, 100, 95, 115, 117, 99, 99, 101, 115, 115, 102, 117, 108, 108, 121]⟩ : Arr185)⟩] else some [⟨.a4_str, (⟨[110, 111], [97, 108, 119, 97, 121, 115], [111, 110, 45, 102, 97, 105, 108, 117, 114, 101], [117, 110, 108, 101, 115, 115, 45, 115, 116, 111, 112, 112, 101, 100]⟩ : Arr185)⟩]
theorem d127_e (G : Nat → ASt E → Option (List (TV E))) (x0 : Int) : runE d127_O d127_H G Tryz.f127 [⟨.int, x0⟩] = d127_t G x0 := by kernel_rfl
theorem d127_f : Tryz.prog.funcs[127]? = some Tryz.f127 := by kernel_rfl
theorem d127_n : (Tryz.f127.name == "runtime.NumGoroutine") = false := by kernel_rfl
theorem d127_b : Tryz.f127.body.isNone = false := by kernel_rfl
theorem d127_hO : OracleOk E d127_O := orac_ok .nil .nil .nil .nil
theorem d127_ok_of (h : ∀ (x0 : Int), d127_k x0 = true → d127_t (Gr E Tryz.f127 [⟨.a4_str, d127_r0 x0⟩]) x0 = some [⟨.a4_str, d127_r0 x0⟩]) : FnOk E d127_id d127_W := fn1_ok d127_hO mix d127_f d127_n d127_b (fun x0 hk => (d127_e _ x0).trans (h x0 hk))
theorem d127_ok : FnOk E d127_id d127_W := d127_ok_of fun x0 hk => by
  have h := some_of (d := (dflt .a4_str)) hk
  unfold d127_t
  generalize hr : (d127_m x0).getD (dflt .a4_str) = r at h
  rw [show d127_r0 x0 = r from hr];
  unfold d127_m at h
  exact (bif2 h (fun h => (by have h := Option.some.inj h; subst h; exact rfl)) fun h => (by have h := Option.some.inj h; subst h; exact rfl))
noncomputable def d253_m (x0 : List UInt8) (x1 : List UInt8) : Option (Int) := bif (okIx x0 x1) then (some ((ixV x0 x1))) else (none)
noncomputable def d253_k (x0 : List UInt8) (x1 : List UInt8) : Bool := (d253_m x0 x1).isSome
noncomputable def d253_r0 (x0 : List UInt8) (x1 : List UInt8) : Int := ((d253_m x0 x1).getD (dflt .int))
noncomputable def d253_W : FnW E := fn2 (E := E) .str .str .int d253_k d253_r0
def d253_id : FuncId := 253
noncomputable def d253_O : Oracle E := orac [(221, sindex_W)] [] [] []
noncomputable def d253_H : Hint E := Hint.mk [] [] [] [] [] 5 []
noncomputable def d253_t (_G : Nat → ASt E → Option (List (TV E))) (x0 x1 : List UInt8) : Option (List (TV E)) :=
  bif (okIx x0 x1) then some [⟨.int, (ixV x0 x1)⟩] else none
theorem d253_e (G : Nat → ASt E → Option (List (TV E))) (x0 : List UInt8) (x1 : List UInt8) : runE d253_O d253_H G Tryz.f253 [⟨.str, x0⟩, ⟨.str, x1⟩] = d253_t G x0 x1 := by kernel_rfl
theorem d253_f : Tryz.prog.funcs[253]? = some Tryz.f253 := by kernel_rfl
theorem d253_n : (Tryz.f253.name == "runtime.NumGoroutine") = false := by kernel_rfl
theorem d253_b : Tryz.f253.body.isNone = false := by kernel_rfl
theorem d253_hO : OracleOk E d253_O := orac_ok (.cons sindex_ok .nil) .nil .nil .nil
theorem d253_ok_of (h : ∀ (x0 : List UInt8) (x1 : List UInt8), d253_k x0 x1 = true → d253_t (Gr E Tryz.f253 [⟨.int, d253_r0 x0 x1⟩]) x0 x1 = some [⟨.int, d253_r0 x0 x1⟩]) : FnOk E d253_id d253_W := fn2_ok d253_hO mix d253_f d253_n d253_b (fun x0 x1 hk => (d253_e _ x0 x1).trans (h x0 x1 hk))
theorem d253_ok : FnOk E d253_id d253_W := d253_ok_of fun x0 x1 hk => by
  have h := some_of (d := (dflt .int)) hk
  unfold d253_t
  generalize hr : (d253_m x0 x1).getD (dflt .int) = r at h
  rw [show d253_r0 x0 x1 = r from hr];
  unfold d253_m at h
  exact (bif2 h (fun h => (by have h := Option.some.inj h; subst h; exact rfl)) fun h => (by cases h))
noncomputable def d191_m0 : Nat → List UInt8 → Int → Int → Bool → Int → Int → Option (Int × Int)
  | 0, _, _, _, _, _, _ => none
  | f + 1, v0, v1, v2, v3, v4, v5 => bif (decide (v5 < v4)) then (bif (decide ((0 : Int) ≤ v5) && decide (v5 < (v0.length : Int))) then (bif (bif (decide ((w64 ((w64 (((List.getD v0 (Int.toNat v5) 0).toNat : Nat) : Int)) - (48 : Int))) < (0 : Int))) then true else (decide ((9 : Int) < (w64 ((w64 (((List.getD v0 (Int.toNat v5) 0).toNat : Nat) : Int)) - (48 : Int)))))) then (some ((0 : Int), (3 : Int))) else (bif ((!((10 : Int) == (0 : Int))) || !(!v3)) then (bif (!(bif (bif v3 then true else (decide ((w64 (Int.tdiv (w64 (v1 - (w64 ((w64 (((List.getD v0 (Int.toNat v5) 0).toNat : Nat) : Int)) - (48 : Int))))) (10 : Int))) < v2))) then true else (decide (v1 < (w64 ((w64 (((List.getD v0 (Int.toNat v5) 0).toNat : Nat) : Int)) - (48 : Int))))))) then (d191_m0 f v0 v1 (w64 ((w64 (v2 * (10 : Int))) + (w64 ((w64 (((List.getD v0 (Int.toNat v5) 0).toNat : Nat) : Int)) - (48 : Int))))) (bif (bif v3 then true else (decide ((w64 (Int.tdiv (w64 (v1 - (w64 ((w64 (((List.getD v0 (Int.toNat v5) 0).toNat : Nat) : Int)) - (48 : Int))))) (10 : Int))) < v2))) then true else (decide (v1 < (w64 ((w64 (((List.getD v0 (Int.toNat v5) 0).toNat : Nat) : Int)) - (48 : Int)))))) v4 (w64 (v5 + (1 : Int)))) else (d191_m0 f v0 v1 v2 (bif (bif v3 then true else (decide ((w64 (Int.tdiv (w64 (v1 - (w64 ((w64 (((List.getD v0 (Int.toNat v5) 0).toNat : Nat) : Int)) - (48 : Int))))) (10 : Int))) < v2))) then true else (decide (v1 < (w64 ((w64 (((List.getD v0 (Int.toNat v5) 0).toNat : Nat) : Int)) - (48 : Int)))))) v4 (w64 (v5 + (1 : Int))))) else (none))) else (none)) else (bif v3 then (some ((0 : Int), (9 : Int))) else (some (v2, (0 : Int))))
noncomputable def d191_m (x0 : List UInt8) (x1 : Int) : Option (Int × Int) := bif ((decide ((0 : Int) ≤ (0 : Int)) && decide ((0 : Int) < (x0.length : Int))) || !((!(x0 == ([] : List UInt8))) && (decide ((1 : Int) < (x0.length : Int))))) then (bif (bif (x0 == ([] : List UInt8)) then true else (bif (decide ((1 : Int) < (x0.length : Int))) then ((((List.getD x0 (Int.toNat (0 : Int)) 0).toNat : Nat) : Int) == (48 : Int)) else false)) then (some ((0 : Int), (3 : Int))) else (let y1 : Int := (x0.length : Int); d191_m0 1000000000 x0 x1 (0 : Int) false y1 (0 : Int))) else (none)
noncomputable def d191_k (x0 : List UInt8) (x1 : Int) : Bool := (d191_m x0 x1).isSome
noncomputable def d191_r0 (x0 : List UInt8) (x1 : Int) : Int := ((d191_m x0 x1).getD (dflt .int, dflt .api_Errno)).1
noncomputable def d191_r1 (x0 : List UInt8) (x1 : Int) : Int := ((d191_m x0 x1).getD (dflt .int, dflt .api_Errno)).2
noncomputable def d191_W : FnW E := fn22 (E := E) .str .int .int .api_Errno d191_k d191_r0 d191_r1
def d191_id : FuncId := 191
noncomputable def d191_O : Oracle E := orac [] [] [] []
noncomputable def d191_H : Hint E := Hint.mk [(0, [0, 1, 6, 7, 23, 24])] [] [] [] [] 5 []
noncomputable def d191_C0 (v0 : List UInt8) (v1 v2 : Int) (v3 : Bool) (v4 v5 : Int) : ASt E := ASt.mk 61 [(0, .d (.str v0)), (1, .d (.int .i64 v1)), (6, .d (.int .i64 v2)), (7, .d (.bool v3)), (23, .d (.int .i64 v4)), (24, .d (.int .i64 v5))] [] 0
noncomputable def d191_t (G : Nat → ASt E → Option (List (TV E))) (x0 : List UInt8) (x1 : Int) : Option (List (TV E)) :=
  bif ((decide ((0 : Int) ≤ (0 : Int)) && decide ((0 : Int) < (x0.length : Int))) || !((!(x0 == ([] : List UInt8))) && (decide ((1 : Int) < (x0.length : Int))))) then (bif (bif (x0 == ([] : List UInt8)) then true else (bif (decide ((1 : Int) < (x0.length : Int))) then ((((List.getD x0 (Int.toNat 0) 0).toNat : Nat) : Int) == (48 : Int)) else false)) then some [⟨.int, (0 : Int)⟩, ⟨.api_Errno, (3 : Int)⟩] else (let y1 : Int := (x0.length : Int); G 0 (d191_C0 x0 x1 0 false y1 0))) else none
theorem d191_e (G : Nat → ASt E → Option (List (TV E))) (x0 : List UInt8) (x1 : Int) : runE d191_O d191_H G Tryz.f191 [⟨.str, x0⟩, ⟨.int, x1⟩] = d191_t G x0 x1 := by kernel_rfl
noncomputable def d191_t0 (G : Nat → ASt E → Option (List (TV E))) (v0 : List UInt8) (v1 v2 : Int) (v3 : Bool) (v4 v5 : Int) : Option (List (TV E)) :=
  bif (decide (v5 < v4)) then (bif (decide ((0 : Int) ≤ v5) && decide (v5 < (v0.length : Int))) then (bif (bif (decide ((w64 ((w64 (((List.getD v0 (Int.toNat v5) 0).toNat : Nat) : Int)) - (48 : Int))) < (0 : Int))) then true else (decide ((9 : Int) < (w64 ((w64 (((List.getD v0 (Int.toNat v5) 0).toNat : Nat) : Int)) - (48 : Int)))))) then some [⟨.int, (0 : Int)⟩, ⟨.api_Errno, (3 : Int)⟩] else (bif ((!((10 : Int) == (0 : Int))) || !(!v3)) then (bif (!(bif (bif v3 then true else (decide ((w64 (Int.tdiv (w64 (v1 - (w64 ((w64 (((List.getD v0 (Int.toNat v5) 0).toNat : Nat) : Int)) - (48 : Int))))) (10 : Int))) < v2))) then true else (decide (v1 < (w64 ((w64 (((List.getD v0 (Int.toNat v5) 0).toNat : Nat) : Int)) - (48 : Int))))))) then G 0 (d191_C0 v0 v1 (w64 ((w64 (v2 * (10 : Int))) + (w64 ((w64 (((List.getD v0 (Int.toNat v5) 0).toNat : Nat) : Int)) - (48 : Int))))) (bif (bif v3 then true else (decide ((w64 (Int.tdiv (w64 (v1 - (w64 ((w64 (((List.getD v0 (Int.toNat v5) 0).toNat : Nat) : Int)) - (48 : Int))))) (10 : Int))) < v2))) then true else (decide (v1 < (w64 ((w64 (((List.getD v0 (Int.toNat v5) 0).toNat : Nat) : Int)) - (48 : Int)))))) v4 (w64 (v5 + (1 : Int)))) else G 0 (d191_C0 v0 v1 v2 (bif (bif v3 then true else (decide ((w64 (Int.tdiv (w64 (v1 - (w64 ((w64 (((List.getD v0 (Int.toNat v5) 0).toNat : Nat) : Int)) - (48 : Int))))) (10 : Int))) < v2))) then true else (decide (v1 < (w64 ((w64 (((List.getD v0 (Int.toNat v5) 0).toNat : Nat) : Int)) - (48 : Int)))))) v4 (w64 (v5 + (1 : Int))))) else none)) else none) else (bif v3 then some [⟨.int, (0 : Int)⟩, ⟨.api_Errno, (9 : Int)⟩] else some [⟨.int, v2⟩, ⟨.api_Errno, (0 : Int)⟩])
theorem d191_l0 (G : Nat → ASt E → Option (List (TV E))) (v0 : List UInt8) (v1 v2 : Int) (v3 : Bool) (v4 v5 : Int) : runL d191_O d191_H G Tryz.f191 0 (d191_C0 v0 v1 v2 v3 v4 v5) = d191_t0 G v0 v1 v2 v3 v4 v5 := by kernel_rfl
theorem d191_f : Tryz.prog.funcs[191]? = some Tryz.f191 := by kernel_rfl
theorem d191_n : (Tryz.f191.name == "runtime.NumGoroutine") = false := by kernel_rfl
theorem d191_b : Tryz.f191.body.isNone = false := by kernel_rfl
theorem d191_hO : OracleOk E d191_O := orac_ok .nil .nil .nil .nil
theorem d191_s0 {res : List (TV E)} {v0 : List UInt8} {v1 v2 : Int} {v3 : Bool} {v4 v5 : Int} (h : d191_t0 (Gr E Tryz.f191 res) v0 v1 v2 v3 v4 v5 = some res) : Ev E Tryz.f191 res 0 (d191_C0 v0 v1 v2 v3 v4 v5) := Ev.step d191_hO mix ((d191_l0 _ v0 v1 v2 v3 v4 v5).trans h)
theorem d191_ok_of (h : ∀ (x0 : List UInt8) (x1 : Int), d191_k x0 x1 = true → d191_t (Gr E Tryz.f191 [⟨.int, d191_r0 x0 x1⟩, ⟨.api_Errno, d191_r1 x0 x1⟩]) x0 x1 = some [⟨.int, d191_r0 x0 x1⟩, ⟨.api_Errno, d191_r1 x0 x1⟩]) : FnOk E d191_id d191_W := fn22_ok d191_hO mix d191_f d191_n d191_b (fun x0 x1 hk => (d191_e _ x0 x1).trans (h x0 x1 hk))
theorem d191_v (f : Nat) : (∀ (v0 : List UInt8) (v1 : Int) (v2 : Int) (v3 : Bool) (v4 : Int) (v5 : Int) (r : Int × Int), d191_m0 f v0 v1 v2 v3 v4 v5 = some r → Ev E Tryz.f191 [⟨.int, r.1⟩, ⟨.api_Errno, r.2⟩] 0 (d191_C0 v0 v1 v2 v3 v4 v5)) := by
  induction f with
  | zero => exact (fun _ _ _ _ _ _ _ h => by cases h)
  | succ f ih =>
    exact (fun v0 v1 v2 v3 v4 v5 r h => d191_s0 (by unfold d191_m0 at h; unfold d191_t0; exact (bif2 h (fun h => (bif2 h (fun h => (bif2 h (fun h => (by have h := Option.some.inj h; subst h; exact rfl)) fun h => (bif2 h (fun h => (bif2 h (fun h => (Gr_of (ih _ _ _ _ _ _ _ h))) fun h => (Gr_of (ih _ _ _ _ _ _ _ h)))) fun h => (by cases h)))) fun h => (by cases h))) fun h => (bif2 h (fun h => (by have h := Option.some.inj h; subst h; exact rfl)) fun h => (by have h := Option.some.inj h; subst h; exact rfl)))))
theorem d191_ok : FnOk E d191_id d191_W := d191_ok_of fun x0 x1 hk => by
  have h := some_of (d := (dflt .int, dflt .api_Errno)) hk
  unfold d191_t
  generalize hr : (d191_m x0 x1).getD (dflt .int, dflt .api_Errno) = r at h
  rw [show d191_r0 x0 x1 = r.1 from congrArg (fun z => z.1) hr]; rw [show d191_r1 x0 x1 = r.2 from congrArg (fun z => z.2) hr];
  unfold d191_m at h
  exact (bif2 h (fun h => (bif2 h (fun h => (by have h := Option.some.inj h; subst h; exact rfl)) fun h => (Gr_of ((d191_v _) _ _ _ _ _ _ _ h)))) fun h => (by cases h))
noncomputable def d143_m (x0 : List UInt8) (x1 : Int) : Option (Int × Int) := bif (decide (x1 < (0 : Int))) then (some ((0 : Int), (2 : Int))) else (bif (d191_k x0 x1) then (let y1 : Int := (d191_r0 x0 x1); let y2 : Int := (d191_r1 x0 x1); some (y1, y2)) else (none))
noncomputable def d143_k (x0 : List UInt8) (x1 : Int) : Bool := (d143_m x0 x1).isSome
noncomputable def d143_r0 (x0 : List UInt8) (x1 : Int) : Int := ((d143_m x0 x1).getD (dflt .int, dflt .api_Errno)).1
noncomputable def d143_r1 (x0 : List UInt8) (x1 : Int) : Int := ((d143_m x0 x1).getD (dflt .int, dflt .api_Errno)).2
noncomputable def d143_W : FnW E := fn22 (E := E) .str .int .int .api_Errno d143_k d143_r0 d143_r1
def d143_id : FuncId := 143
noncomputable def d143_O : Oracle E := orac [(191, d191_W)] [] [] []
noncomputable def d143_H : Hint E := Hint.mk [] [] [] [] [] 5 []
noncomputable def d143_t (_G : Nat → ASt E → Option (List (TV E))) (x0 : List UInt8) (x1 : Int) : Option (List (TV E)) :=
  bif (decide (x1 < (0 : Int))) then some [⟨.int, (0 : Int)⟩, ⟨.api_Errno, (2 : Int)⟩] else (bif (d191_k x0 x1) then (let y1 : Int := (d191_r0 x0 x1); let y2 : Int := (d191_r1 x0 x1); some [⟨.int, y1⟩, ⟨.api_Errno, y2⟩]) else none)
theorem d143_e (G : Nat → ASt E → Option (List (TV E))) (x0 : List UInt8) (x1 : Int) : runE d143_O d143_H G Tryz.f143 [⟨.str, x0⟩, ⟨.int, x1⟩] = d143_t G x0 x1 := by kernel_rfl
theorem d143_f : Tryz.prog.funcs[143]? = some Tryz.f143 := by kernel_rfl
theorem d143_n : (Tryz.f143.name == "runtime.NumGoroutine") = false := by kernel_rfl
theorem d143_b : Tryz.f143.body.isNone = false := by kernel_rfl
theorem d143_hO : OracleOk E d143_O := orac_ok (.cons d191_ok .nil) .nil .nil .nil
theorem d143_ok_of (h : ∀ (x0 : List UInt8) (x1 : Int), d143_k x0 x1 = true → d143_t (Gr E Tryz.f143 [⟨.int, d143_r0 x0 x1⟩, ⟨.api_Errno, d143_r1 x0 x1⟩]) x0 x1 = some [⟨.int, d143_r0 x0 x1⟩, ⟨.api_Errno, d143_r1 x0 x1⟩]) : FnOk E d143_id d143_W := fn22_ok d143_hO mix d143_f d143_n d143_b (fun x0 x1 hk => (d143_e _ x0 x1).trans (h x0 x1 hk))
theorem d143_ok : FnOk E d143_id d143_W := d143_ok_of fun x0 x1 hk => by
  have h := some_of (d := (dflt .int, dflt .api_Errno)) hk
  unfold d143_t
  generalize hr : (d143_m x0 x1).getD (dflt .int, dflt .api_Errno) = r at h
  rw [show d143_r0 x0 x1 = r.1 from congrArg (fun z => z.1) hr]; rw [show d143_r1 x0 x1 = r.2 from congrArg (fun z => z.2) hr];
  unfold d143_m at h
  exact (bif2 h (fun h => (by have h := Option.some.inj h; subst h; exact rfl)) fun h => (bif2 h (fun h => (by have h := Option.some.inj h; subst h; exact rfl)) fun h => (by cases h)))
noncomputable def d237_m (x0 : List UInt8) : Option (Bool) := bif (d143_k x0 (255 : Int)) then (let y1 : Int := (d143_r0 x0 (255 : Int)); let y2 : Int := (d143_r1 x0 (255 : Int)); some ((y2 != (0 : Int)))) else (none)
noncomputable def d237_k (x0 : List UInt8) : Bool := (d237_m x0).isSome
noncomputable def d237_r0 (x0 : List UInt8) : Bool := ((d237_m x0).getD (dflt .bool))
noncomputable def d237_W : FnW E := fn1 (E := E) .str .bool d237_k d237_r0
def d237_id : FuncId := 237
noncomputable def d237_O : Oracle E := orac [(143, d143_W)] [] [] []
noncomputable def d237_H : Hint E := Hint.mk [] [] [] [] [] 5 []
noncomputable def d237_t (_G : Nat → ASt E → Option (List (TV E))) (x0 : List UInt8) : Option (List (TV E)) :=
  bif (d143_k x0 255) then (let y1 : Int := (d143_r0 x0 255); let y2 : Int := (d143_r1 x0 255); some [⟨.bool, (y2 != (0 : Int))⟩]) else none
theorem d237_e (G : Nat → ASt E → Option (List (TV E))) (x0 : List UInt8) : runE d237_O d237_H G Tryz.f237 [⟨.str, x0⟩] = d237_t G x0 := by kernel_rfl
theorem d237_f : Tryz.prog.funcs[237]? = some Tryz.f237 := by kernel_rfl
theorem d237_n : (Tryz.f237.name == "runtime.NumGoroutine") = false := by kernel_rfl
theorem d237_b : Tryz.f237.body.isNone = false := by kernel_rfl
theorem d237_hO : OracleOk E d237_O := orac_ok (.cons d143_ok .nil) .nil .nil .nil
theorem d237_ok_of (h : ∀ (x0 : List UInt8), d237_k x0 = true → d237_t (Gr E Tryz.f237 [⟨.bool, d237_r0 x0⟩]) x0 = some [⟨.bool, d237_r0 x0⟩]) : FnOk E d237_id d237_W := fn1_ok d237_hO mix d237_f d237_n d237_b (fun x0 hk => (d237_e _ x0).trans (h x0 hk))
theorem d237_ok : FnOk E d237_id d237_W := d237_ok_of fun x0 hk => by
  have h := some_of (d := (dflt .bool)) hk
  unfold d237_t
  generalize hr : (d237_m x0).getD (dflt .bool) = r at h
  rw [show d237_r0 x0 = r from hr];
  unfold d237_m at h
  exact (bif2 h (fun h => (by have h := Option.some.inj h; subst h; exact rfl)) fun h => (by cases h))
noncomputable def d162_m0 : Nat → List UInt8 → Int → Int → Option (Bool)
  | 0, _, _, _ => none
  | f + 1, v0, v1, v2 => bif (decide (v2 < v1)) then (bif (decide ((0 : Int) ≤ v2) && decide (v2 < (v0.length : Int))) then (bif (bif (bif (bif (bif (decide ((((List.getD v0 (Int.toNat v2) 0).toNat : Nat) : Int) < (97 : Int))) then true else (decide ((122 : Int) < (((List.getD v0 (Int.toNat v2) 0).toNat : Nat) : Int)))) then (bif (decide ((((List.getD v0 (Int.toNat v2) 0).toNat : Nat) : Int) < (65 : Int))) then true else (decide ((90 : Int) < (((List.getD v0 (Int.toNat v2) 0).toNat : Nat) : Int)))) else false) then (bif (decide ((((List.getD v0 (Int.toNat v2) 0).toNat : Nat) : Int) < (48 : Int))) then true else (decide ((57 : Int) < (((List.getD v0 (Int.toNat v2) 0).toNat : Nat) : Int)))) else false) then (decide ((ixbV ([46, 95, 45, 47] : List UInt8) (((List.getD v0 (Int.toNat v2) 0).toNat : Nat) : Int)) < (0 : Int))) else false) then (some (false)) else (d162_m0 f v0 v1 (w64 (v2 + (1 : Int))))) else (none)) else (some ((bif (!(v0 == ([] : List UInt8))) then (decide ((v0.length : Int) ≤ (64 : Int))) else false)))
noncomputable def d162_m (x0 : List UInt8) : Option (Bool) := let y1 : Int := (x0.length : Int); d162_m0 1000000000 x0 y1 (0 : Int)
noncomputable def d162_k (x0 : List UInt8) : Bool := (d162_m x0).isSome
noncomputable def d162_r0 (x0 : List UInt8) : Bool := ((d162_m x0).getD (dflt .bool))
noncomputable def d162_W : FnW E := fn1 (E := E) .str .bool d162_k d162_r0
def d162_id : FuncId := 162
noncomputable def d162_O : Oracle E := orac [(205, sidxb_W)] [] [] []
noncomputable def d162_H : Hint E := Hint.mk [(0, [0, 6, 7])] [] [] [] [] 5 []
noncomputable def d162_C0 (v0 : List UInt8) (v1 v2 : Int) : ASt E := ASt.mk 48 [(0, .d (.str v0)), (6, .d (.int .i64 v1)), (7, .d (.int .i64 v2))] [] 0
noncomputable def d162_t (G : Nat → ASt E → Option (List (TV E))) (x0 : List UInt8) : Option (List (TV E)) :=
  let y1 : Int := (x0.length : Int); G 0 (d162_C0 x0 y1 0)
theorem d162_e (G : Nat → ASt E → Option (List (TV E))) (x0 : List UInt8) : runE d162_O d162_H G Tryz.f162 [⟨.str, x0⟩] = d162_t G x0 := by kernel_rfl
noncomputable def d162_t0 (G : Nat → ASt E → Option (List (TV E))) (v0 : List UInt8) (v1 v2 : Int) : Option (List (TV E)) :=
  bif (decide (v2 < v1)) then (bif (decide ((0 : Int) ≤ v2) && decide (v2 < (v0.length : Int))) then (bif (bif (bif (bif (bif (decide ((((List.getD v0 (Int.toNat v2) 0).toNat : Nat) : Int) < (97 : Int))) then true else (decide ((122 : Int) < (((List.getD v0 (Int.toNat v2) 0).toNat : Nat) : Int)))) then (bif (decide ((((List.getD v0 (Int.toNat v2) 0).toNat : Nat) : Int) < (65 : Int))) then true else (decide ((90 : Int) < (((List.getD v0 (Int.toNat v2) 0).toNat : Nat) : Int)))) else false) then (bif (decide ((((List.getD v0 (Int.toNat v2) 0).toNat : Nat) : Int) < (48 : Int))) then true else (decide ((57 : Int) < (((List.getD v0 (Int.toNat v2) 0).toNat : Nat) : Int)))) else false) then (decide ((ixbV [46, 95, 45, 47] (((List.getD v0 (Int.toNat v2) 0).toNat : Nat) : Int)) < (0 : Int))) else false) then some [⟨.bool, false⟩] else G 0 (d162_C0 v0 v1 (w64 (v2 + (1 : Int))))) else none) else some [⟨.bool, (bif (!(v0 == ([] : List UInt8))) then (decide ((v0.length : Int) ≤ (64 : Int))) else false)⟩]
theorem d162_l0 (G : Nat → ASt E → Option (List (TV E))) (v0 : List UInt8) (v1 v2 : Int) : runL d162_O d162_H G Tryz.f162 0 (d162_C0 v0 v1 v2) = d162_t0 G v0 v1 v2 := by kernel_rfl
theorem d162_f : Tryz.prog.funcs[162]? = some Tryz.f162 := by kernel_rfl
theorem d162_n : (Tryz.f162.name == "runtime.NumGoroutine") = false := by kernel_rfl
theorem d162_b : Tryz.f162.body.isNone = false := by kernel_rfl
theorem d162_hO : OracleOk E d162_O := orac_ok (.cons sidxb_ok .nil) .nil .nil .nil
theorem d162_s0 {res : List (TV E)} {v0 : List UInt8} {v1 v2 : Int} (h : d162_t0 (Gr E Tryz.f162 res) v0 v1 v2 = some res) : Ev E Tryz.f162 res 0 (d162_C0 v0 v1 v2) := Ev.step d162_hO mix ((d162_l0 _ v0 v1 v2).trans h)
theorem d162_ok_of (h : ∀ (x0 : List UInt8), d162_k x0 = true → d162_t (Gr E Tryz.f162 [⟨.bool, d162_r0 x0⟩]) x0 = some [⟨.bool, d162_r0 x0⟩]) : FnOk E d162_id d162_W := fn1_ok d162_hO mix d162_f d162_n d162_b (fun x0 hk => (d162_e _ x0).trans (h x0 hk))
theorem d162_v (f : Nat) : (∀ (v0 : List UInt8) (v1 : Int) (v2 : Int) (r : Bool), d162_m0 f v0 v1 v2 = some r → Ev E Tryz.f162 [⟨.bool, r⟩] 0 (d162_C0 v0 v1 v2)) := by
  induction f with
  | zero => exact (fun _ _ _ _ h => by cases h)
  | succ f ih =>
    exact (fun v0 v1 v2 r h => d162_s0 (by unfold d162_m0 at h; unfold d162_t0; exact (bif2 h (fun h => (bif2 h (fun h => (bif2 h (fun h => (by have h := Option.some.inj h; subst h; exact rfl)) fun h => (Gr_of (ih _ _ _ _ h)))) fun h => (by cases h))) fun h => (by have h := Option.some.inj h; subst h; exact rfl))))
theorem d162_ok : FnOk E d162_id d162_W := d162_ok_of fun x0 hk => by
  have h := some_of (d := (dflt .bool)) hk
  unfold d162_t
  generalize hr : (d162_m x0).getD (dflt .bool) = r at h
  rw [show d162_r0 x0 = r from hr];
  unfold d162_m at h
  exact (Gr_of ((d162_v _) _ _ _ _ h))
noncomputable def d176_m (x0 : Int) : Option (Bool) := some ((bif (decide ((97 : Int) ≤ x0)) then (decide (x0 ≤ (122 : Int))) else false))
noncomputable def d176_k (x0 : Int) : Bool := (d176_m x0).isSome
noncomputable def d176_r0 (x0 : Int) : Bool := ((d176_m x0).getD (dflt .bool))
noncomputable def d176_W : FnW E := fn1 (E := E) .byte .bool d176_k d176_r0
def d176_id : FuncId := 176
noncomputable def d176_O : Oracle E := orac [] [] [] []
noncomputable def d176_H : Hint E := Hint.mk [] [] [] [] [] 5 []
noncomputable def d176_t (_G : Nat → ASt E → Option (List (TV E))) (x0 : Int) : Option (List (TV E)) :=
  some [⟨.bool, (bif (decide ((97 : Int) ≤ x0)) then (decide (x0 ≤ (122 : Int))) else false)⟩]
theorem d176_e (G : Nat → ASt E → Option (List (TV E))) (x0 : Int) : runE d176_O d176_H G Tryz.f176 [⟨.byte, x0⟩] = d176_t G x0 := by kernel_rfl
theorem d176_f : Tryz.prog.funcs[176]? = some Tryz.f176 := by kernel_rfl
theorem d176_n : (Tryz.f176.name == "runtime.NumGoroutine") = false := by kernel_rfl
theorem d176_b : Tryz.f176.body.isNone = false := by kernel_rfl
theorem d176_hO : OracleOk E d176_O := orac_ok .nil .nil .nil .nil
theorem d176_ok_of (h : ∀ (x0 : Int), d176_k x0 = true → d176_t (Gr E Tryz.f176 [⟨.bool, d176_r0 x0⟩]) x0 = some [⟨.bool, d176_r0 x0⟩]) : FnOk E d176_id d176_W := fn1_ok d176_hO mix d176_f d176_n d176_b (fun x0 hk => (d176_e _ x0).trans (h x0 hk))
theorem d176_ok : FnOk E d176_id d176_W := d176_ok_of fun x0 hk => by
  have h := some_of (d := (dflt .bool)) hk
  unfold d176_t
  generalize hr : (d176_m x0).getD (dflt .bool) = r at h
  rw [show d176_r0 x0 = r from hr];
  unfold d176_m at h
  exact (by have h := Option.some.inj h; subst h; exact rfl)
noncomputable def d207_m (x0 : Int) : Option (Bool) := bif (d176_k x0) then (some ((bif (d176_r0 x0) then true else (bif (decide ((65 : Int) ≤ x0)) then (decide (x0 ≤ (90 : Int))) else false)))) else (none)
noncomputable def d207_k (x0 : Int) : Bool := (d207_m x0).isSome
noncomputable def d207_r0 (x0 : Int) : Bool := ((d207_m x0).getD (dflt .bool))
noncomputable def d207_W : FnW E := fn1 (E := E) .byte .bool d207_k d207_r0
def d207_id : FuncId := 207
noncomputable def d207_O : Oracle E := orac [(176, d176_W)] [] [] []
noncomputable def d207_H : Hint E := Hint.mk [] [] [] [] [] 5 []
noncomputable def d207_t (_G : Nat → ASt E → Option (List (TV E))) (x0 : Int) : Option (List (TV E)) :=
  bif (d176_k x0) then some [⟨.bool, (bif (d176_r0 x0) then true else (bif (decide ((65 : Int) ≤ x0)) then (decide (x0 ≤ (90 : Int))) else false))⟩] else none
theorem d207_e (G : Nat → ASt E → Option (List (TV E))) (x0 : Int) : runE d207_O d207_H G Tryz.f207 [⟨.byte, x0⟩] = d207_t G x0 := by kernel_rfl
theorem d207_f : Tryz.prog.funcs[207]? = some Tryz.f207 := by kernel_rfl
theorem d207_n : (Tryz.f207.name == "runtime.NumGoroutine") = false := by kernel_rfl
theorem d207_b : Tryz.f207.body.isNone = false := by kernel_rfl
theorem d207_hO : OracleOk E d207_O := orac_ok (.cons d176_ok .nil) .nil .nil .nil
theorem d207_ok_of (h : ∀ (x0 : Int), d207_k x0 = true → d207_t (Gr E Tryz.f207 [⟨.bool, d207_r0 x0⟩]) x0 = some [⟨.bool, d207_r0 x0⟩]) : FnOk E d207_id d207_W := fn1_ok d207_hO mix d207_f d207_n d207_b (fun x0 hk => (d207_e _ x0).trans (h x0 hk))
theorem d207_ok : FnOk E d207_id d207_W := d207_ok_of fun x0 hk => by
  have h := some_of (d := (dflt .bool)) hk
  unfold d207_t
  generalize hr : (d207_m x0).getD (dflt .bool) = r at h
  rw [show d207_r0 x0 = r from hr];
  unfold d207_m at h
  exact (bif2 h (fun h => (by have h := Option.some.inj h; subst h; exact rfl)) fun h => (by cases h))
noncomputable def d177_m (x0 : Int) : Option (Bool) := some ((bif (decide ((48 : Int) ≤ x0)) then (decide (x0 ≤ (57 : Int))) else false))
noncomputable def d177_k (x0 : Int) : Bool := (d177_m x0).isSome
noncomputable def d177_r0 (x0 : Int) : Bool := ((d177_m x0).getD (dflt .bool))
noncomputable def d177_W : FnW E := fn1 (E := E) .byte .bool d177_k d177_r0
def d177_id : FuncId := 177
noncomputable def d177_O : Oracle E := orac [] [] [] []
noncomputable def d177_H : Hint E := Hint.mk [] [] [] [] [] 5 []
noncomputable def d177_t (_G : Nat → ASt E → Option (List (TV E))) (x0 : Int) : Option (List (TV E)) :=
  some [⟨.bool, (bif (decide ((48 : Int) ≤ x0)) then (decide (x0 ≤ (57 : Int))) else false)⟩]
theorem d177_e (G : Nat → ASt E → Option (List (TV E))) (x0 : Int) : runE d177_O d177_H G Tryz.f177 [⟨.byte, x0⟩] = d177_t G x0 := by kernel_rfl
theorem d177_f : Tryz.prog.funcs[177]? = some Tryz.f177 := by kernel_rfl
theorem d177_n : (Tryz.f177.name == "runtime.NumGoroutine") = false := by kernel_rfl
theorem d177_b : Tryz.f177.body.isNone = false := by kernel_rfl
theorem d177_hO : OracleOk E d177_O := orac_ok .nil .nil .nil .nil
theorem d177_ok_of (h : ∀ (x0 : Int), d177_k x0 = true → d177_t (Gr E Tryz.f177 [⟨.bool, d177_r0 x0⟩]) x0 = some [⟨.bool, d177_r0 x0⟩]) : FnOk E d177_id d177_W := fn1_ok d177_hO mix d177_f d177_n d177_b (fun x0 hk => (d177_e _ x0).trans (h x0 hk))
theorem d177_ok : FnOk E d177_id d177_W := d177_ok_of fun x0 hk => by
  have h := some_of (d := (dflt .bool)) hk
  unfold d177_t
  generalize hr : (d177_m x0).getD (dflt .bool) = r at h
  rw [show d177_r0 x0 = r from hr];
  unfold d177_m at h
  exact (by have h := Option.some.inj h; subst h; exact rfl)
noncomputable def d206_m (x0 : Int) : Option (Bool) := bif (d207_k x0) then (bif ((d177_k x0) || !(!(d207_r0 x0))) then (some ((bif (d207_r0 x0) then true else (d177_r0 x0)))) else (none)) else (none)
noncomputable def d206_k (x0 : Int) : Bool := (d206_m x0).isSome
noncomputable def d206_r0 (x0 : Int) : Bool := ((d206_m x0).getD (dflt .bool))
noncomputable def d206_W : FnW E := fn1 (E := E) .byte .bool d206_k d206_r0
def d206_id : FuncId := 206
noncomputable def d206_O : Oracle E := orac [(207, d207_W), (177, d177_W)] [] [] []
noncomputable def d206_H : Hint E := Hint.mk [] [] [] [] [] 5 []
noncomputable def d206_t (_G : Nat → ASt E → Option (List (TV E))) (x0 : Int) : Option (List (TV E)) :=
  bif (d207_k x0) then (bif ((d177_k x0) || !(!(d207_r0 x0))) then some [⟨.bool, (bif (d207_r0 x0) then true else (d177_r0 x0))⟩] else none) else none
theorem d206_e (G : Nat → ASt E → Option (List (TV E))) (x0 : Int) : runE d206_O d206_H G Tryz.f206 [⟨.byte, x0⟩] = d206_t G x0 := by kernel_rfl
theorem d206_f : Tryz.prog.funcs[206]? = some Tryz.f206 := by kernel_rfl
theorem d206_n : (Tryz.f206.name == "runtime.NumGoroutine") = false := by kernel_rfl
theorem d206_b : Tryz.f206.body.isNone = false := by kernel_rfl
theorem d206_hO : OracleOk E d206_O := orac_ok (.cons d207_ok (.cons d177_ok .nil)) .nil .nil .nil
theorem d206_ok_of (h : ∀ (x0 : Int), d206_k x0 = true → d206_t (Gr E Tryz.f206 [⟨.bool, d206_r0 x0⟩]) x0 = some [⟨.bool, d206_r0 x0⟩]) : FnOk E d206_id d206_W := fn1_ok d206_hO mix d206_f d206_n d206_b (fun x0 hk => (d206_e _ x0).trans (h x0 hk))
theorem d206_ok : FnOk E d206_id d206_W := d206_ok_of fun x0 hk => by
  have h := some_of (d := (dflt .bool)) hk
  unfold d206_t
  generalize hr : (d206_m x0).getD (dflt .bool) = r at h
  rw [show d206_r0 x0 = r from hr];
  unfold d206_m at h
  exact (bif2 h (fun h => (bif2 h (fun h => (by have h := Option.some.inj h; subst h; exact rfl)) fun h => (by cases h))) fun h => (by cases h))
noncomputable def d208_m (x0 : Int) : Option (Bool) := bif (d207_k x0) then (bif ((d177_k x0) || !(!(d207_r0 x0))) then (some ((bif (bif (bif (bif (d207_r0 x0) then true else (d177_r0 x0)) then true else (x0 == (45 : Int))) then true else (x0 == (95 : Int))) then true else (x0 == (46 : Int))))) else (none)) else (none)
noncomputable def d208_k (x0 : Int) : Bool := (d208_m x0).isSome
noncomputable def d208_r0 (x0 : Int) : Bool := ((d208_m x0).getD (dflt .bool))
noncomputable def d208_W : FnW E := fn1 (E := E) .byte .bool d208_k d208_r0
def d208_id : FuncId := 208
noncomputable def d208_O : Oracle E := orac [(207, d207_W), (177, d177_W)] [] [] []
noncomputable def d208_H : Hint E := Hint.mk [] [] [] [] [] 5 []
noncomputable def d208_t (_G : Nat → ASt E → Option (List (TV E))) (x0 : Int) : Option (List (TV E)) :=
  bif (d207_k x0) then (bif ((d177_k x0) || !(!(d207_r0 x0))) then some [⟨.bool, (bif (bif (bif (bif (d207_r0 x0) then true else (d177_r0 x0)) then true else (x0 == (45 : Int))) then true else (x0 == (95 : Int))) then true else (x0 == (46 : Int)))⟩] else none) else none
theorem d208_e (G : Nat → ASt E → Option (List (TV E))) (x0 : Int) : runE d208_O d208_H G Tryz.f208 [⟨.byte, x0⟩] = d208_t G x0 := by kernel_rfl
theorem d208_f : Tryz.prog.funcs[208]? = some Tryz.f208 := by kernel_rfl
theorem d208_n : (Tryz.f208.name == "runtime.NumGoroutine") = false := by kernel_rfl
theorem d208_b : Tryz.f208.body.isNone = false := by kernel_rfl
theorem d208_hO : OracleOk E d208_O := orac_ok (.cons d207_ok (.cons d177_ok .nil)) .nil .nil .nil
theorem d208_ok_of (h : ∀ (x0 : Int), d208_k x0 = true → d208_t (Gr E Tryz.f208 [⟨.bool, d208_r0 x0⟩]) x0 = some [⟨.bool, d208_r0 x0⟩]) : FnOk E d208_id d208_W := fn1_ok d208_hO mix d208_f d208_n d208_b (fun x0 hk => (d208_e _ x0).trans (h x0 hk))
theorem d208_ok : FnOk E d208_id d208_W := d208_ok_of fun x0 hk => by
  have h := some_of (d := (dflt .bool)) hk
  unfold d208_t
  generalize hr : (d208_m x0).getD (dflt .bool) = r at h
  rw [show d208_r0 x0 = r from hr];
  unfold d208_m at h
  exact (bif2 h (fun h => (bif2 h (fun h => (by have h := Option.some.inj h; subst h; exact rfl)) fun h => (by cases h))) fun h => (by cases h))
noncomputable def d169_m0 : Nat → Int → Int → Option (Int)
  | 0, _, _ => none
  | f + 1, v0, v1 => bif (bif (bif (decide (v1 < (3 : Int))) then (v0 != (0 : Int)) else false) then ((bits .and .i64 v0 (1023 : Int)) == (0 : Int)) else false) then (bif (decide ((0 : Int) ≤ (10 : Int)) && decide ((10 : Int) ≤ (64 : Int))) then (d169_m0 f (v0 / 2 ^ (Int.toNat (10 : Int))) (w64 (v1 + (1 : Int)))) else (none)) else (some (v1))
noncomputable def d169_m (x0 : Int) : Option (Int) := d169_m0 1000000000 x0 (0 : Int)
noncomputable def d169_k (x0 : Int) : Bool := (d169_m x0).isSome
noncomputable def d169_r0 (x0 : Int) : Int := ((d169_m x0).getD (dflt .int))
noncomputable def d169_W : FnW E := fn1 (E := E) .int .int d169_k d169_r0
def d169_id : FuncId := 169
noncomputable def d169_O : Oracle E := orac [] [] [] []
noncomputable def d169_H : Hint E := Hint.mk [(0, [0, 3])] [] [] [] [] 5 []
noncomputable def d169_C0 (v0 v1 : Int) : ASt E := ASt.mk 20 [(0, .d (.int .i64 v0)), (3, .d (.int .i64 v1))] [] 0
noncomputable def d169_t (G : Nat → ASt E → Option (List (TV E))) (x0 : Int) : Option (List (TV E)) :=
  G 0 (d169_C0 x0 0)
theorem d169_e (G : Nat → ASt E → Option (List (TV E))) (x0 : Int) : runE d169_O d169_H G Tryz.f169 [⟨.int, x0⟩] = d169_t G x0 := by kernel_rfl
noncomputable def d169_t0 (G : Nat → ASt E → Option (List (TV E))) (v0 v1 : Int) : Option (List (TV E)) :=
  bif (bif (bif (decide (v1 < (3 : Int))) then (v0 != (0 : Int)) else false) then ((bits .and .i64 v0 1023) == (0 : Int)) else false) then (bif (decide ((0 : Int) ≤ (10 : Int)) && decide ((10 : Int) ≤ (64 : Int))) then G 0 (d169_C0 (v0 / 2 ^ (Int.toNat 10)) (w64 (v1 + (1 : Int)))) else none) else some [⟨.int, v1⟩]
theorem d169_l0 (G : Nat → ASt E → Option (List (TV E))) (v0 v1 : Int) : runL d169_O d169_H G Tryz.f169 0 (d169_C0 v0 v1) = d169_t0 G v0 v1 := by kernel_rfl
theorem d169_f : Tryz.prog.funcs[169]? = some Tryz.f169 := by kernel_rfl
theorem d169_n : (Tryz.f169.name == "runtime.NumGoroutine") = false := by kernel_rfl
theorem d169_b : Tryz.f169.body.isNone = false := by kernel_rfl
theorem d169_hO : OracleOk E d169_O := orac_ok .nil .nil .nil .nil
theorem d169_s0 {res : List (TV E)} {v0 v1 : Int} (h : d169_t0 (Gr E Tryz.f169 res) v0 v1 = some res) : Ev E Tryz.f169 res 0 (d169_C0 v0 v1) := Ev.step d169_hO mix ((d169_l0 _ v0 v1).trans h)
theorem d169_ok_of (h : ∀ (x0 : Int), d169_k x0 = true → d169_t (Gr E Tryz.f169 [⟨.int, d169_r0 x0⟩]) x0 = some [⟨.int, d169_r0 x0⟩]) : FnOk E d169_id d169_W := fn1_ok d169_hO mix d169_f d169_n d169_b (fun x0 hk => (d169_e _ x0).trans (h x0 hk))
theorem d169_v (f : Nat) : (∀ (v0 : Int) (v1 : Int) (r : Int), d169_m0 f v0 v1 = some r → Ev E Tryz.f169 [⟨.int, r⟩] 0 (d169_C0 v0 v1)) := by
  induction f with
  | zero => exact (fun _ _ _ h => by cases h)
  | succ f ih =>
    exact (fun v0 v1 r h => d169_s0 (by unfold d169_m0 at h; unfold d169_t0; exact (bif2 h (fun h => (bif2 h (fun h => (Gr_of (ih _ _ _ h))) fun h => (by cases h))) fun h => (by have h := Option.some.inj h; subst h; exact rfl))))
theorem d169_ok : FnOk E d169_id d169_W := d169_ok_of fun x0 hk => by
  have h := some_of (d := (dflt .int)) hk
  unfold d169_t
  generalize hr : (d169_m x0).getD (dflt .int) = r at h
  rw [show d169_r0 x0 = r from hr];
  unfold d169_m at h
  exact (Gr_of ((d169_v _) _ _ _ h))
noncomputable def d210_m (x0 : List UInt8) (x1 : List UInt8) : Option (Bool) := let y1 : Int := (x0.length : Int); let y2 : Int := (x1.length : Int); bif ((decide ((0 : Int) ≤ (0 : Int)) && decide ((0 : Int) ≤ (x1.length : Int)) && decide ((x1.length : Int) ≤ (x0.length : Int))) || !(decide (y2 ≤ y1))) then (some ((bif (decide (y2 ≤ y1)) then ((List.take (Int.toNat (x1.length : Int) - Int.toNat (0 : Int)) (List.drop (Int.toNat (0 : Int)) x0)) == x1) else false))) else (none)
noncomputable def d210_k (x0 : List UInt8) (x1 : List UInt8) : Bool := (d210_m x0 x1).isSome
noncomputable def d210_r0 (x0 : List UInt8) (x1 : List UInt8) : Bool := ((d210_m x0 x1).getD (dflt .bool))
noncomputable def d210_W : FnW E := fn2 (E := E) .str .str .bool d210_k d210_r0
def d210_id : FuncId := 210
noncomputable def d210_O : Oracle E := orac [] [] [] []
noncomputable def d210_H : Hint E := Hint.mk [] [] [] [] [] 5 []
noncomputable def d210_t (_G : Nat → ASt E → Option (List (TV E))) (x0 x1 : List UInt8) : Option (List (TV E)) :=
  let y1 : Int := (x0.length : Int); let y2 : Int := (x1.length : Int); bif ((decide ((0 : Int) ≤ (0 : Int)) && decide ((0 : Int) ≤ (x1.length : Int)) && decide ((x1.length : Int) ≤ (x0.length : Int))) || !(decide (y2 ≤ y1))) then some [⟨.bool, (bif (decide (y2 ≤ y1)) then ((List.take (Int.toNat (x1.length : Int) - Int.toNat 0) (List.drop (Int.toNat 0) x0)) == x1) else false)⟩] else none
theorem d210_e (G : Nat → ASt E → Option (List (TV E))) (x0 : List UInt8) (x1 : List UInt8) : runE d210_O d210_H G Tryz.f210 [⟨.str, x0⟩, ⟨.str, x1⟩] = d210_t G x0 x1 := by kernel_rfl
theorem d210_f : Tryz.prog.funcs[210]? = some Tryz.f210 := by kernel_rfl
theorem d210_n : (Tryz.f210.name == "runtime.NumGoroutine") = false := by kernel_rfl
theorem d210_b : Tryz.f210.body.isNone = false := by kernel_rfl
theorem d210_hO : OracleOk E d210_O := orac_ok .nil .nil .nil .nil
theorem d210_ok_of (h : ∀ (x0 : List UInt8) (x1 : List UInt8), d210_k x0 x1 = true → d210_t (Gr E Tryz.f210 [⟨.bool, d210_r0 x0 x1⟩]) x0 x1 = some [⟨.bool, d210_r0 x0 x1⟩]) : FnOk E d210_id d210_W := fn2_ok d210_hO mix d210_f d210_n d210_b (fun x0 x1 hk => (d210_e _ x0 x1).trans (h x0 x1 hk))
theorem d210_ok : FnOk E d210_id d210_W := d210_ok_of fun x0 x1 hk => by
  have h := some_of (d := (dflt .bool)) hk
  unfold d210_t
  generalize hr : (d210_m x0 x1).getD (dflt .bool) = r at h
  rw [show d210_r0 x0 x1 = r from hr];
  unfold d210_m at h
  exact (bif2 h (fun h => (by have h := Option.some.inj h; subst h; exact rfl)) fun h => (by cases h))
noncomputable def d170_m (x0 : List UInt8) (x1 : List UInt8) : Option (Bool) := bif (d210_k x0 x1) then (let y1 : Bool := (d210_r0 x0 x1); some (y1)) else (none)
noncomputable def d170_k (x0 : List UInt8) (x1 : List UInt8) : Bool := (d170_m x0 x1).isSome
noncomputable def d170_r0 (x0 : List UInt8) (x1 : List UInt8) : Bool := ((d170_m x0 x1).getD (dflt .bool))
noncomputable def d170_W : FnW E := fn2 (E := E) .str .str .bool d170_k d170_r0
def d170_id : FuncId := 170
noncomputable def d170_O : Oracle E := orac [(210, d210_W)] [] [] []
noncomputable def d170_H : Hint E := Hint.mk [] [] [] [] [] 5 []
noncomputable def d170_t (_G : Nat → ASt E → Option (List (TV E))) (x0 x1 : List UInt8) : Option (List (TV E)) :=
  bif (d210_k x0 x1) then (let y1 : Bool := (d210_r0 x0 x1); some [⟨.bool, y1⟩]) else none
theorem d170_e (G : Nat → ASt E → Option (List (TV E))) (x0 : List UInt8) (x1 : List UInt8) : runE d170_O d170_H G Tryz.f170 [⟨.str, x0⟩, ⟨.str, x1⟩] = d170_t G x0 x1 := by kernel_rfl
theorem d170_f : Tryz.prog.funcs[170]? = some Tryz.f170 := by kernel_rfl
theorem d170_n : (Tryz.f170.name == "runtime.NumGoroutine") = false := by kernel_rfl
theorem d170_b : Tryz.f170.body.isNone = false := by kernel_rfl
theorem d170_hO : OracleOk E d170_O := orac_ok (.cons d210_ok .nil) .nil .nil .nil
theorem d170_ok_of (h : ∀ (x0 : List UInt8) (x1 : List UInt8), d170_k x0 x1 = true → d170_t (Gr E Tryz.f170 [⟨.bool, d170_r0 x0 x1⟩]) x0 x1 = some [⟨.bool, d170_r0 x0 x1⟩]) : FnOk E d170_id d170_W := fn2_ok d170_hO mix d170_f d170_n d170_b (fun x0 x1 hk => (d170_e _ x0 x1).trans (h x0 x1 hk))
theorem d170_ok : FnOk E d170_id d170_W := d170_ok_of fun x0 x1 hk => by
  have h := some_of (d := (dflt .bool)) hk
  unfold d170_t
  generalize hr : (d170_m x0 x1).getD (dflt .bool) = r at h
  rw [show d170_r0 x0 x1 = r from hr];
  unfold d170_m at h
  exact (bif2 h (fun h => (by have h := Option.some.inj h; subst h; exact rfl)) fun h => (by cases h))
noncomputable def d132_m (x0 : List UInt8) : Option (Bool) := bif (d170_k x0 ([120, 45] : List UInt8)) then (let y1 : Bool := (d170_r0 x0 ([120, 45] : List UInt8)); some (y1)) else (none)
noncomputable def d132_k (x0 : List UInt8) : Bool := (d132_m x0).isSome
noncomputable def d132_r0 (x0 : List UInt8) : Bool := ((d132_m x0).getD (dflt .bool))
noncomputable def d132_W : FnW E := fn1 (E := E) .str .bool d132_k d132_r0
def d132_id : FuncId := 132
noncomputable def d132_O : Oracle E := orac [(170, d170_W)] [] [] []
noncomputable def d132_H : Hint E := Hint.mk [] [] [] [] [] 5 []
noncomputable def d132_t (_G : Nat → ASt E → Option (List (TV E))) (x0 : List UInt8) : Option (List (TV E)) :=
  bif (d170_k x0 [120, 45]) then (let y1 : Bool := (d170_r0 x0 [120, 45]); some [⟨.bool, y1⟩]) else none
theorem d132_e (G : Nat → ASt E → Option (List (TV E))) (x0 : List UInt8) : runE d132_O d132_H G Tryz.f132 [⟨.str, x0⟩] = d132_t G x0 := by kernel_rfl
theorem d132_f : Tryz.prog.funcs[132]? = some Tryz.f132 := by kernel_rfl
theorem d132_n : (Tryz.f132.name == "runtime.NumGoroutine") = false := by kernel_rfl
theorem d132_b : Tryz.f132.body.isNone = false := by kernel_rfl
theorem d132_hO : OracleOk E d132_O := orac_ok (.cons d170_ok .nil) .nil .nil .nil
theorem d132_ok_of (h : ∀ (x0 : List UInt8), d132_k x0 = true → d132_t (Gr E Tryz.f132 [⟨.bool, d132_r0 x0⟩]) x0 = some [⟨.bool, d132_r0 x0⟩]) : FnOk E d132_id d132_W := fn1_ok d132_hO mix d132_f d132_n d132_b (fun x0 hk => (d132_e _ x0).trans (h x0 hk))
theorem d132_ok : FnOk E d132_id d132_W := d132_ok_of fun x0 hk => by
  have h := some_of (d := (dflt .bool)) hk
  unfold d132_t
  generalize hr : (d132_m x0).getD (dflt .bool) = r at h
  rw [show d132_r0 x0 = r from hr];
  unfold d132_m at h
  exact (bif2 h (fun h => (by have h := Option.some.inj h; subst h; exact rfl)) fun h => (by cases h))
noncomputable def d172_m0 : Nat → List (List UInt8) → List (List UInt8) → Int → Int → Option ((List UInt8))
  | 0, _, _, _, _ => none
  | f + 1, v0, v1, v2, v3 => bif (decide (v3 < v2)) then (bif (decide ((0 : Int) ≤ v3) && decide (v3 < (v1.length : Int))) then (bif (!((List.getD v1 (Int.toNat v3) (dflt .str)) == ([] : List UInt8))) then (bif (decide ((v0.length + ([(List.getD v1 (Int.toNat v3) (dflt .str))] : List (List UInt8)).length) * 16 ≤ maxBytes)) then (d172_m0 f (v0 ++ ([(List.getD v1 (Int.toNat v3) (dflt .str))] : List (List UInt8))) v1 v2 (w64 (v3 + (1 : Int)))) else (none)) else (d172_m0 f v0 v1 v2 (w64 (v3 + (1 : Int))))) else (none)) else (bif (okJn v0 ([46] : List UInt8)) then (let y3 : List UInt8 := (Lib.join v0 ([46] : List UInt8)); some (y3)) else (none))
noncomputable def d172_m (x0 : List (List UInt8)) : Option ((List UInt8)) := let y2 : Int := (x0.length : Int); d172_m0 1000000000 ([] : List (List UInt8)) x0 y2 (0 : Int)
noncomputable def d172_k (x0 : List (List UInt8)) : Bool := (d172_m x0).isSome
noncomputable def d172_r0 (x0 : List (List UInt8)) : List UInt8 := ((d172_m x0).getD (dflt .str))
noncomputable def d172_W : FnW E := fn1 (E := E) .l_str .str d172_k d172_r0
def d172_id : FuncId := 172
noncomputable def d172_O : Oracle E := orac [(63, sjoin_W)] [] [] []
noncomputable def d172_H : Hint E := Hint.mk [(0, [3, 6, 7, 8])] [] [(0, [(3, none, true, .str)])] [] [] 5 []
noncomputable def d172_C0 (v0 : List (List UInt8)) (v1 : List (List UInt8)) (v2 v3 : Int) : ASt E := ASt.mk 21 [(3, .grow .str v0 0), (6, .d (.slice .str v1)), (7, .d (.int .i64 v2)), (8, .d (.int .i64 v3))] [(0, .tail true)] 1
noncomputable def d172_t (G : Nat → ASt E → Option (List (TV E))) (x0 : List (List UInt8)) : Option (List (TV E)) :=
  let y2 : Int := (x0.length : Int); G 0 (d172_C0 [] x0 y2 0)
theorem d172_e (G : Nat → ASt E → Option (List (TV E))) (x0 : List (List UInt8)) : runE d172_O d172_H G Tryz.f172 [⟨.l_str, x0⟩] = d172_t G x0 := by kernel_rfl
noncomputable def d172_t0 (G : Nat → ASt E → Option (List (TV E))) (v0 : List (List UInt8)) (v1 : List (List UInt8)) (v2 v3 : Int) : Option (List (TV E)) :=
  bif (decide (v3 < v2)) then (bif (decide ((0 : Int) ≤ v3) && decide (v3 < (v1.length : Int))) then (bif (!((List.getD v1 (Int.toNat v3) (dflt .str)) == ([] : List UInt8))) then (bif (decide ((v0.length + ([(List.getD v1 (Int.toNat v3) (dflt .str))] : List (List UInt8)).length) * 16 ≤ maxBytes)) then G 0 (d172_C0 (v0 ++ ([(List.getD v1 (Int.toNat v3) (dflt .str))] : List (List UInt8))) v1 v2 (w64 (v3 + (1 : Int)))) else none) else G 0 (d172_C0 v0 v1 v2 (w64 (v3 + (1 : Int))))) else none) else (bif (okJn v0 [46]) then (let y3 : List UInt8 := (Lib.join v0 ([46] : List UInt8)); some [⟨.str, y3⟩]) else none)
theorem d172_l0 (G : Nat → ASt E → Option (List (TV E))) (v0 : List (List UInt8)) (v1 : List (List UInt8)) (v2 v3 : Int) : runL d172_O d172_H G Tryz.f172 0 (d172_C0 v0 v1 v2 v3) = d172_t0 G v0 v1 v2 v3 := by kernel_rfl
theorem d172_f : Tryz.prog.funcs[172]? = some Tryz.f172 := by kernel_rfl
theorem d172_n : (Tryz.f172.name == "runtime.NumGoroutine") = false := by kernel_rfl
theorem d172_b : Tryz.f172.body.isNone = false := by kernel_rfl
theorem d172_hO : OracleOk E d172_O := orac_ok (.cons sjoin_ok .nil) .nil .nil .nil
theorem d172_s0 {res : List (TV E)} {v0 : List (List UInt8)} {v1 : List (List UInt8)} {v2 v3 : Int} (h : d172_t0 (Gr E Tryz.f172 res) v0 v1 v2 v3 = some res) : Ev E Tryz.f172 res 0 (d172_C0 v0 v1 v2 v3) := Ev.step d172_hO mix ((d172_l0 _ v0 v1 v2 v3).trans h)
theorem d172_ok_of (h : ∀ (x0 : List (List UInt8)), d172_k x0 = true → d172_t (Gr E Tryz.f172 [⟨.str, d172_r0 x0⟩]) x0 = some [⟨.str, d172_r0 x0⟩]) : FnOk E d172_id d172_W := fn1_ok d172_hO mix d172_f d172_n d172_b (fun x0 hk => (d172_e _ x0).trans (h x0 hk))
theorem d172_v (f : Nat) : (∀ (v0 : List (List UInt8)) (v1 : List (List UInt8)) (v2 : Int) (v3 : Int) (r : (List UInt8)), d172_m0 f v0 v1 v2 v3 = some r → Ev E Tryz.f172 [⟨.str, r⟩] 0 (d172_C0 v0 v1 v2 v3)) := by
  induction f with
  | zero => exact (fun _ _ _ _ _ h => by cases h)
  | succ f ih =>
    exact (fun v0 v1 v2 v3 r h => d172_s0 (by unfold d172_m0 at h; unfold d172_t0; exact (bif2 h (fun h => (bif2 h (fun h => (bif2 h (fun h => (bif2 h (fun h => (Gr_of (ih _ _ _ _ _ h))) fun h => (by cases h))) fun h => (Gr_of (ih _ _ _ _ _ h)))) fun h => (by cases h))) fun h => (bif2 h (fun h => (by have h := Option.some.inj h; subst h; exact rfl)) fun h => (by cases h)))))
theorem d172_ok : FnOk E d172_id d172_W := d172_ok_of fun x0 hk => by
  have h := some_of (d := (dflt .str)) hk
  unfold d172_t
  generalize hr : (d172_m x0).getD (dflt .str) = r at h
  rw [show d172_r0 x0 = r from hr];
  unfold d172_m at h
  exact (Gr_of ((d172_v _) _ _ _ _ _ h))
noncomputable def d273_m (x0 : List UInt8) : Option (Bool) := some ((bif (!(x0 == ([] : List UInt8))) then (decide ((x0.length : Int) ≤ (64 : Int))) else false))
noncomputable def d273_k (x0 : List UInt8) : Bool := (d273_m x0).isSome
noncomputable def d273_r0 (x0 : List UInt8) : Bool := ((d273_m x0).getD (dflt .bool))
noncomputable def d273_W : FnW E := fn1 (E := E) .str .bool d273_k d273_r0
def d273_id : FuncId := 273
noncomputable def d273_O : Oracle E := orac [] [] [] []
noncomputable def d273_H : Hint E := Hint.mk [] [] [] [] [] 5 []
noncomputable def d273_t (_G : Nat → ASt E → Option (List (TV E))) (x0 : List UInt8) : Option (List (TV E)) :=
  some [⟨.bool, (bif (!(x0 == ([] : List UInt8))) then (decide ((x0.length : Int) ≤ (64 : Int))) else false)⟩]
theorem d273_e (G : Nat → ASt E → Option (List (TV E))) (x0 : List UInt8) : runE d273_O d273_H G Tryz.f273 [⟨.str, x0⟩] = d273_t G x0 := by kernel_rfl
theorem d273_f : Tryz.prog.funcs[273]? = some Tryz.f273 := by kernel_rfl
theorem d273_n : (Tryz.f273.name == "runtime.NumGoroutine") = false := by kernel_rfl
theorem d273_b : Tryz.f273.body.isNone = false := by kernel_rfl
theorem d273_hO : OracleOk E d273_O := orac_ok .nil .nil .nil .nil
theorem d273_ok_of (h : ∀ (x0 : List UInt8), d273_k x0 = true → d273_t (Gr E Tryz.f273 [⟨.bool, d273_r0 x0⟩]) x0 = some [⟨.bool, d273_r0 x0⟩]) : FnOk E d273_id d273_W := fn1_ok d273_hO mix d273_f d273_n d273_b (fun x0 hk => (d273_e _ x0).trans (h x0 hk))
theorem d273_ok : FnOk E d273_id d273_W := d273_ok_of fun x0 hk => by
  have h := some_of (d := (dflt .bool)) hk
  unfold d273_t
  generalize hr : (d273_m x0).getD (dflt .bool) = r at h
  rw [show d273_r0 x0 = r from hr];
  unfold d273_m at h
  exact (by have h := Option.some.inj h; subst h; exact rfl)
noncomputable def d238_m (x0 : Node) : Option (Node × Int) := bif ((d273_k x0.text) || !(!(x0.kind != (1 : Int)))) then (bif (bif (x0.kind != (1 : Int)) then true else (!(d273_r0 x0.text))) then (some ((⟨(0 : Int), ([] : List UInt8), ([] : List (List UInt8)), ([] : List Node)⟩ : Node), (10 : Int))) else (some ((⟨x0.kind, x0.text, x0.keys, x0.kids⟩ : Node), (0 : Int)))) else (none)
noncomputable def d238_k (x0 : Node) : Bool := (d238_m x0).isSome
noncomputable def d238_r0 (x0 : Node) : Node := ((d238_m x0).getD (dflt .api_Node, dflt .api_Errno)).1
noncomputable def d238_r1 (x0 : Node) : Int := ((d238_m x0).getD (dflt .api_Node, dflt .api_Errno)).2
noncomputable def d238_W : FnW E := fn12 (E := E) .api_Node .api_Node .api_Errno d238_k d238_r0 d238_r1
def d238_id : FuncId := 238
noncomputable def d238_O : Oracle E := withI (orac [(273, d273_W)] [] [] []) [(213, Tryz.f213), (272, Tryz.f272)]
noncomputable def d238_H : Hint E := Hint.mk [] [] [] [] [] 5 []
noncomputable def d238_t (_G : Nat → ASt E → Option (List (TV E))) (x0 : Node) : Option (List (TV E)) :=
  bif ((d273_k x0.text) || !(!(x0.kind != (1 : Int)))) then (bif (bif (x0.kind != (1 : Int)) then true else (!(d273_r0 x0.text))) then some [⟨.api_Node, (⟨0, [], [], []⟩ : Node)⟩, ⟨.api_Errno, (10 : Int)⟩] else some [⟨.api_Node, (⟨x0.kind, x0.text, x0.keys, x0.kids⟩ : Node)⟩, ⟨.api_Errno, (0 : Int)⟩]) else none
theorem d238_e (G : Nat → ASt E → Option (List (TV E))) (x0 : Node) : runE d238_O d238_H G Tryz.f238 [⟨.api_Node, x0⟩] = d238_t G x0 := by kernel_rfl
theorem d238_f : Tryz.prog.funcs[238]? = some Tryz.f238 := by kernel_rfl
theorem d238_n : (Tryz.f238.name == "runtime.NumGoroutine") = false := by kernel_rfl
theorem d238_b : Tryz.f238.body.isNone = false := by kernel_rfl
theorem d238_hO : OracleOk E d238_O := withI_ok (orac_ok (.cons d273_ok .nil) .nil .nil .nil) mix (.cons (f := 213) (fn := Tryz.f213) (by kernel_rfl) (by kernel_rfl) (by kernel_rfl) (.cons (f := 272) (fn := Tryz.f272) (by kernel_rfl) (by kernel_rfl) (by kernel_rfl) .nil))
theorem d238_ok_of (h : ∀ (x0 : Node), d238_k x0 = true → d238_t (Gr E Tryz.f238 [⟨.api_Node, d238_r0 x0⟩, ⟨.api_Errno, d238_r1 x0⟩]) x0 = some [⟨.api_Node, d238_r0 x0⟩, ⟨.api_Errno, d238_r1 x0⟩]) : FnOk E d238_id d238_W := fn12_ok d238_hO mix d238_f d238_n d238_b (fun x0 hk => (d238_e _ x0).trans (h x0 hk))
theorem d238_ok : FnOk E d238_id d238_W := d238_ok_of fun x0 hk => by
  have h := some_of (d := (dflt .api_Node, dflt .api_Errno)) hk
  unfold d238_t
  generalize hr : (d238_m x0).getD (dflt .api_Node, dflt .api_Errno) = r at h
  rw [show d238_r0 x0 = r.1 from congrArg (fun z => z.1) hr]; rw [show d238_r1 x0 = r.2 from congrArg (fun z => z.2) hr];
  unfold d238_m at h
  exact (bif2 h (fun h => (bif2 h (fun h => (by have h := Option.some.inj h; subst h; exact rfl)) fun h => (by have h := Option.some.inj h; subst h; exact rfl))) fun h => (by cases h))
noncomputable def d180_m (x0 : Node) (x1 : Int) : Option (Bool) := some ((bif (x0.kind == x1) then (decide ((x0.kids.length : Int) ≤ (32 : Int))) else false))
noncomputable def d180_k (x0 : Node) (x1 : Int) : Bool := (d180_m x0 x1).isSome
noncomputable def d180_r0 (x0 : Node) (x1 : Int) : Bool := ((d180_m x0 x1).getD (dflt .bool))
noncomputable def d180_W : FnW E := fn2 (E := E) .api_Node .int .bool d180_k d180_r0
def d180_id : FuncId := 180
noncomputable def d180_O : Oracle E := orac [] [] [] []
noncomputable def d180_H : Hint E := Hint.mk [] [] [] [] [] 5 []
noncomputable def d180_t (_G : Nat → ASt E → Option (List (TV E))) (x0 : Node) (x1 : Int) : Option (List (TV E)) :=
  some [⟨.bool, (bif (x0.kind == x1) then (decide ((x0.kids.length : Int) ≤ (32 : Int))) else false)⟩]
theorem d180_e (G : Nat → ASt E → Option (List (TV E))) (x0 : Node) (x1 : Int) : runE d180_O d180_H G Tryz.f180 [⟨.api_Node, x0⟩, ⟨.int, x1⟩] = d180_t G x0 x1 := by kernel_rfl
theorem d180_f : Tryz.prog.funcs[180]? = some Tryz.f180 := by kernel_rfl
theorem d180_n : (Tryz.f180.name == "runtime.NumGoroutine") = false := by kernel_rfl
theorem d180_b : Tryz.f180.body.isNone = false := by kernel_rfl
theorem d180_hO : OracleOk E d180_O := orac_ok .nil .nil .nil .nil
theorem d180_ok_of (h : ∀ (x0 : Node) (x1 : Int), d180_k x0 x1 = true → d180_t (Gr E Tryz.f180 [⟨.bool, d180_r0 x0 x1⟩]) x0 x1 = some [⟨.bool, d180_r0 x0 x1⟩]) : FnOk E d180_id d180_W := fn2_ok d180_hO mix d180_f d180_n d180_b (fun x0 x1 hk => (d180_e _ x0 x1).trans (h x0 x1 hk))
theorem d180_ok : FnOk E d180_id d180_W := d180_ok_of fun x0 x1 hk => by
  have h := some_of (d := (dflt .bool)) hk
  unfold d180_t
  generalize hr : (d180_m x0 x1).getD (dflt .bool) = r at h
  rw [show d180_r0 x0 x1 = r from hr];
  unfold d180_m at h
  exact (by have h := Option.some.inj h; subst h; exact rfl)
noncomputable def d179_m0 : Nat → List (List UInt8) → List Node → Int → Int → Int → List UInt8 → List (List UInt8) → List Node → Option ((List (List UInt8)) × Bool)
  | 0, _, _, _, _, _, _, _, _ => none
  | f + 1, v0, v1, v2, v3, v4, v5, v6, v7 => bif (decide (v3 < v2)) then (bif (decide ((0 : Int) ≤ v3) && decide (v3 < (v1.length : Int))) then (bif ((List.getD v1 (Int.toNat v3) (dflt .api_Node)).kind != (1 : Int)) then (some (([] : List (List UInt8)), false)) else (bif (decide ((v0.length + ([(List.getD v1 (Int.toNat v3) (dflt .api_Node)).text] : List (List UInt8)).length) * 16 ≤ maxBytes)) then (d179_m0 f (v0 ++ ([(List.getD v1 (Int.toNat v3) (dflt .api_Node)).text] : List (List UInt8))) v1 v2 (w64 (v3 + (1 : Int))) v4 v5 v6 v7) else (none))) else (none)) else (bif (d180_k (⟨v4, v5, v6, v7⟩ : Node) (2 : Int)) then (let y3 : Bool := (d180_r0 (⟨v4, v5, v6, v7⟩ : Node) (2 : Int)); some (v0, y3)) else (none))
noncomputable def d179_m (x0 : Node) : Option ((List (List UInt8)) × Bool) := let y2 : Int := (x0.kids.length : Int); d179_m0 1000000000 ([] : List (List UInt8)) x0.kids y2 (0 : Int) x0.kind x0.text x0.keys x0.kids
noncomputable def d179_k (x0 : Node) : Bool := (d179_m x0).isSome
noncomputable def d179_r0 (x0 : Node) : List (List UInt8) := ((d179_m x0).getD (dflt .l_str, dflt .bool)).1
noncomputable def d179_r1 (x0 : Node) : Bool := ((d179_m x0).getD (dflt .l_str, dflt .bool)).2
noncomputable def d179_W : FnW E := fn12 (E := E) .api_Node .l_str .bool d179_k d179_r0 d179_r1
def d179_id : FuncId := 179
noncomputable def d179_O : Oracle E := orac [(180, d180_W)] [] [] []
noncomputable def d179_H : Hint E := Hint.mk [(0, [1, 4, 8, 9, 10])] [] [(0, [(4, none, true, .str)])] [] [] 5 []
noncomputable def d179_C0 (v0 : List (List UInt8)) (v1 : List Node) (v2 v3 v4 : Int) (v5 : List UInt8) (v6 : List (List UInt8)) (v7 : List Node) : ASt E := ASt.mk 26 [(1, .ptr 0 0), (4, .grow .str v0 1), (8, .d (.slice .api_Node v1)), (9, .d (.int .i64 v2)), (10, .d (.int .i64 v3))] [(0, .box [.d (.int .i64 v4), .d (.str v5), .d (.slice .str v6), .d (.slice .api_Node v7)]), (1, .tail true)] 2
noncomputable def d179_t (G : Nat → ASt E → Option (List (TV E))) (x0 : Node) : Option (List (TV E)) :=
  let y2 : Int := (x0.kids.length : Int); G 0 (d179_C0 [] x0.kids y2 0 x0.kind x0.text x0.keys x0.kids)
theorem d179_e (G : Nat → ASt E → Option (List (TV E))) (x0 : Node) : runE d179_O d179_H G Tryz.f179 [⟨.api_Node, x0⟩] = d179_t G x0 := by kernel_rfl
noncomputable def d179_t0 (G : Nat → ASt E → Option (List (TV E))) (v0 : List (List UInt8)) (v1 : List Node) (v2 v3 v4 : Int) (v5 : List UInt8) (v6 : List (List UInt8)) (v7 : List Node) : Option (List (TV E)) :=
  bif (decide (v3 < v2)) then (bif (decide ((0 : Int) ≤ v3) && decide (v3 < (v1.length : Int))) then (bif ((List.getD v1 (Int.toNat v3) (dflt .api_Node)).kind != (1 : Int)) then some [⟨.l_str, ([] : List (List UInt8))⟩, ⟨.bool, false⟩] else (bif (decide ((v0.length + ([(List.getD v1 (Int.toNat v3) (dflt .api_Node)).text] : List (List UInt8)).length) * 16 ≤ maxBytes)) then G 0 (d179_C0 (v0 ++ ([(List.getD v1 (Int.toNat v3) (dflt .api_Node)).text] : List (List UInt8))) v1 v2 (w64 (v3 + (1 : Int))) v4 v5 v6 v7) else none)) else none) else (bif (d180_k ⟨v4, v5, v6, v7⟩ 2) then (let y3 : Bool := (d180_r0 ⟨v4, v5, v6, v7⟩ 2); some [⟨.l_str, v0⟩, ⟨.bool, y3⟩]) else none)
theorem d179_l0 (G : Nat → ASt E → Option (List (TV E))) (v0 : List (List UInt8)) (v1 : List Node) (v2 v3 v4 : Int) (v5 : List UInt8) (v6 : List (List UInt8)) (v7 : List Node) : runL d179_O d179_H G Tryz.f179 0 (d179_C0 v0 v1 v2 v3 v4 v5 v6 v7) = d179_t0 G v0 v1 v2 v3 v4 v5 v6 v7 := by kernel_rfl
theorem d179_f : Tryz.prog.funcs[179]? = some Tryz.f179 := by kernel_rfl
theorem d179_n : (Tryz.f179.name == "runtime.NumGoroutine") = false := by kernel_rfl
theorem d179_b : Tryz.f179.body.isNone = false := by kernel_rfl
theorem d179_hO : OracleOk E d179_O := orac_ok (.cons d180_ok .nil) .nil .nil .nil
theorem d179_s0 {res : List (TV E)} {v0 : List (List UInt8)} {v1 : List Node} {v2 v3 v4 : Int} {v5 : List UInt8} {v6 : List (List UInt8)} {v7 : List Node} (h : d179_t0 (Gr E Tryz.f179 res) v0 v1 v2 v3 v4 v5 v6 v7 = some res) : Ev E Tryz.f179 res 0 (d179_C0 v0 v1 v2 v3 v4 v5 v6 v7) := Ev.step d179_hO mix ((d179_l0 _ v0 v1 v2 v3 v4 v5 v6 v7).trans h)
theorem d179_ok_of (h : ∀ (x0 : Node), d179_k x0 = true → d179_t (Gr E Tryz.f179 [⟨.l_str, d179_r0 x0⟩, ⟨.bool, d179_r1 x0⟩]) x0 = some [⟨.l_str, d179_r0 x0⟩, ⟨.bool, d179_r1 x0⟩]) : FnOk E d179_id d179_W := fn12_ok d179_hO mix d179_f d179_n d179_b (fun x0 hk => (d179_e _ x0).trans (h x0 hk))
theorem d179_v (f : Nat) : (∀ (v0 : List (List UInt8)) (v1 : List Node) (v2 : Int) (v3 : Int) (v4 : Int) (v5 : List UInt8) (v6 : List (List UInt8)) (v7 : List Node) (r : (List (List UInt8)) × Bool), d179_m0 f v0 v1 v2 v3 v4 v5 v6 v7 = some r → Ev E Tryz.f179 [⟨.l_str, r.1⟩, ⟨.bool, r.2⟩] 0 (d179_C0 v0 v1 v2 v3 v4 v5 v6 v7)) := by
  induction f with
  | zero => exact (fun _ _ _ _ _ _ _ _ _ h => by cases h)
  | succ f ih =>
    exact (fun v0 v1 v2 v3 v4 v5 v6 v7 r h => d179_s0 (by unfold d179_m0 at h; unfold d179_t0; exact (bif2 h (fun h => (bif2 h (fun h => (bif2 h (fun h => (by have h := Option.some.inj h; subst h; exact rfl)) fun h => (bif2 h (fun h => (Gr_of (ih _ _ _ _ _ _ _ _ _ h))) fun h => (by cases h)))) fun h => (by cases h))) fun h => (bif2 h (fun h => (by have h := Option.some.inj h; subst h; exact rfl)) fun h => (by cases h)))))
theorem d179_ok : FnOk E d179_id d179_W := d179_ok_of fun x0 hk => by
  have h := some_of (d := (dflt .l_str, dflt .bool)) hk
  unfold d179_t
  generalize hr : (d179_m x0).getD (dflt .l_str, dflt .bool) = r at h
  rw [show d179_r0 x0 = r.1 from congrArg (fun z => z.1) hr]; rw [show d179_r1 x0 = r.2 from congrArg (fun z => z.2) hr];
  unfold d179_m at h
  exact (Gr_of ((d179_v _) _ _ _ _ _ _ _ _ _ h))
noncomputable def d301_m (x0 : Int) : Option (Bool) := some ((bif (x0 == (32 : Int)) then true else (x0 == (9 : Int))))
noncomputable def d301_k (x0 : Int) : Bool := (d301_m x0).isSome
noncomputable def d301_r0 (x0 : Int) : Bool := ((d301_m x0).getD (dflt .bool))
noncomputable def d301_W : FnW E := fn1 (E := E) .byte .bool d301_k d301_r0
def d301_id : FuncId := 301
noncomputable def d301_O : Oracle E := orac [] [] [] []
noncomputable def d301_H : Hint E := Hint.mk [] [] [] [] [] 5 []
noncomputable def d301_t (_G : Nat → ASt E → Option (List (TV E))) (x0 : Int) : Option (List (TV E)) :=
  some [⟨.bool, (bif (x0 == (32 : Int)) then true else (x0 == (9 : Int)))⟩]
theorem d301_e (G : Nat → ASt E → Option (List (TV E))) (x0 : Int) : runE d301_O d301_H G Tryz.f301 [⟨.byte, x0⟩] = d301_t G x0 := by kernel_rfl
theorem d301_f : Tryz.prog.funcs[301]? = some Tryz.f301 := by kernel_rfl
theorem d301_n : (Tryz.f301.name == "runtime.NumGoroutine") = false := by kernel_rfl
theorem d301_b : Tryz.f301.body.isNone = false := by kernel_rfl
theorem d301_hO : OracleOk E d301_O := orac_ok .nil .nil .nil .nil
theorem d301_ok_of (h : ∀ (x0 : Int), d301_k x0 = true → d301_t (Gr E Tryz.f301 [⟨.bool, d301_r0 x0⟩]) x0 = some [⟨.bool, d301_r0 x0⟩]) : FnOk E d301_id d301_W := fn1_ok d301_hO mix d301_f d301_n d301_b (fun x0 hk => (d301_e _ x0).trans (h x0 hk))
theorem d301_ok : FnOk E d301_id d301_W := d301_ok_of fun x0 hk => by
  have h := some_of (d := (dflt .bool)) hk
  unfold d301_t
  generalize hr : (d301_m x0).getD (dflt .bool) = r at h
  rw [show d301_r0 x0 = r from hr];
  unfold d301_m at h
  exact (by have h := Option.some.inj h; subst h; exact rfl)
mutual
noncomputable def d274_m100 : Nat → List (List UInt8) → List Int → Bool → Option ((List (List UInt8)) × Int)
  | 0, _, _, _ => none
  | _ + 1, v0, v1, v2 => bif v2 then (bif (decide ((v0.length + ([(List.map (fun y => UInt8.ofNat (Int.toNat y)) v1)] : List (List UInt8)).length) * 16 ≤ maxBytes)) then (let y40 : Int := ((v0 ++ ([(List.map (fun y => UInt8.ofNat (Int.toNat y)) v1)] : List (List UInt8))).length : Int); bif (decide ((32 : Int) < y40)) then (some (([] : List (List UInt8)), (9 : Int))) else (some ((v0 ++ ([(List.map (fun y => UInt8.ofNat (Int.toNat y)) v1)] : List (List UInt8))), (0 : Int)))) else (none)) else (let y41 : Int := (v0.length : Int); bif (decide ((32 : Int) < y41)) then (some (([] : List (List UInt8)), (9 : Int))) else (some (v0, (0 : Int))))
noncomputable def d274_m101 : Nat → List UInt8 → List (List UInt8) → List Int → Int → Bool → Option ((List (List UInt8)) × Int)
  | 0, _, _, _, _, _ => none
  | f + 1, v0, v1, v2, v3, v4 => let y42 : Int := (v0.length : Int); bif (v3 == y42) then (d274_m100 f v1 v2 v4) else (bif (decide ((0 : Int) ≤ v3) && decide (v3 < (v0.length : Int))) then (bif (d301_k (((List.getD v0 (Int.toNat v3) 0).toNat : Nat) : Int)) then (let y43 : Bool := (d301_r0 (((List.getD v0 (Int.toNat v3) 0).toNat : Nat) : Int)); bif y43 then (bif v4 then (bif (decide ((v1.length + ([(List.map (fun y => UInt8.ofNat (Int.toNat y)) v2)] : List (List UInt8)).length) * 16 ≤ maxBytes)) then (d274_m101 f v0 (v1 ++ ([(List.map (fun y => UInt8.ofNat (Int.toNat y)) v2)] : List (List UInt8))) ([] : List Int) (w64 (v3 + (1 : Int))) false) else (none)) else (d274_m101 f v0 v1 v2 (w64 (v3 + (1 : Int))) v4)) else (bif (decide ((0 : Int) ≤ v3) && decide (v3 < (v0.length : Int))) then (bif ((((List.getD v0 (Int.toNat v3) 0).toNat : Nat) : Int) == (39 : Int)) then (d274_m102 f v0 v1 v2 (w64 (v3 + (1 : Int))) true) else (bif (decide ((0 : Int) ≤ v3) && decide (v3 < (v0.length : Int))) then (bif ((((List.getD v0 (Int.toNat v3) 0).toNat : Nat) : Int) == (34 : Int)) then (d274_m103 f v0 v1 v2 (w64 (v3 + (1 : Int))) true) else (bif (decide ((0 : Int) ≤ v3) && decide (v3 < (v0.length : Int))) then (bif ((((List.getD v0 (Int.toNat v3) 0).toNat : Nat) : Int) == (92 : Int)) then (let y44 : Int := (v0.length : Int); bif ((w64 (v3 + (1 : Int))) == y44) then (some (([] : List (List UInt8)), (3 : Int))) else (bif (decide ((0 : Int) ≤ (w64 (v3 + (1 : Int)))) && decide ((w64 (v3 + (1 : Int))) < (v0.length : Int))) then (bif (decide ((v2.length + ([(((List.getD v0 (Int.toNat (w64 (v3 + (1 : Int)))) 0).toNat : Nat) : Int)] : List Int).length) * 1 ≤ maxBytes)) then (d274_m101 f v0 v1 (v2 ++ ([(((List.getD v0 (Int.toNat (w64 (v3 + (1 : Int)))) 0).toNat : Nat) : Int)] : List Int)) (w64 ((w64 (v3 + (1 : Int))) + (1 : Int))) true) else (none)) else (none))) else (bif (decide ((0 : Int) ≤ v3) && decide (v3 < (v0.length : Int))) then (bif (decide ((v2.length + ([(((List.getD v0 (Int.toNat v3) 0).toNat : Nat) : Int)] : List Int).length) * 1 ≤ maxBytes)) then (d274_m101 f v0 v1 (v2 ++ ([(((List.getD v0 (Int.toNat v3) 0).toNat : Nat) : Int)] : List Int)) (w64 (v3 + (1 : Int))) true) else (none)) else (none))) else (none))) else (none))) else (none))) else (none)) else (none))
noncomputable def d274_m102 : Nat → List UInt8 → List (List UInt8) → List Int → Int → Bool → Option ((List (List UInt8)) × Int)
  | 0, _, _, _, _, _ => none
  | f + 1, v0, v1, v2, v3, v4 => bif (decide ((0 : Int) ≤ v3) && decide (v3 ≤ (v0.length : Int)) && decide ((v0.length : Int) ≤ (v0.length : Int))) then (let y45 : Int := (ixbV (List.take (Int.toNat (v0.length : Int) - Int.toNat v3) (List.drop (Int.toNat v3) v0)) (39 : Int)); bif (decide ((0 : Int) ≤ y45)) then (bif (decide ((0 : Int) ≤ v3) && decide (v3 ≤ (w64 (v3 + y45))) && decide ((w64 (v3 + y45)) ≤ (v0.length : Int))) then (bif (decide ((v2.length + (List.map (fun b : UInt8 => ((b.toNat : Nat) : Int)) (List.take (Int.toNat (w64 (v3 + y45)) - Int.toNat v3) (List.drop (Int.toNat v3) v0))).length) * 1 ≤ maxBytes)) then (d274_m101 f v0 v1 (v2 ++ (List.map (fun b : UInt8 => ((b.toNat : Nat) : Int)) (List.take (Int.toNat (w64 (v3 + y45)) - Int.toNat v3) (List.drop (Int.toNat v3) v0)))) (w64 (v3 + (w64 (y45 + (1 : Int))))) v4) else (none)) else (none)) else (some (([] : List (List UInt8)), (3 : Int)))) else (none)
noncomputable def d274_m103 : Nat → List UInt8 → List (List UInt8) → List Int → Int → Bool → Option ((List (List UInt8)) × Int)
  | 0, _, _, _, _, _ => none
  | f + 1, v0, v1, v2, v3, v4 => let y46 : Int := (v0.length : Int); bif ((decide ((0 : Int) ≤ v3) && decide (v3 < (v0.length : Int))) || !((!(v3 == y46)) && ((w64 (v3 + (1 : Int))) == (v0.length : Int)))) then (bif (bif (v3 == y46) then true else (bif ((w64 (v3 + (1 : Int))) == (v0.length : Int)) then ((((List.getD v0 (Int.toNat v3) 0).toNat : Nat) : Int) == (92 : Int)) else false)) then (some (([] : List (List UInt8)), (3 : Int))) else (bif (decide ((0 : Int) ≤ v3) && decide (v3 < (v0.length : Int))) then (bif ((((List.getD v0 (Int.toNat v3) 0).toNat : Nat) : Int) == (34 : Int)) then (d274_m101 f v0 v1 v2 (w64 (v3 + (1 : Int))) v4) else (bif (decide ((0 : Int) ≤ v3) && decide (v3 < (v0.length : Int))) then (bif ((((List.getD v0 (Int.toNat v3) 0).toNat : Nat) : Int) == (92 : Int)) then (bif (decide ((0 : Int) ≤ (w64 (v3 + (1 : Int)))) && decide ((w64 (v3 + (1 : Int))) < (v0.length : Int))) then (bif ((decide ((0 : Int) ≤ (w64 (v3 + (1 : Int)))) && decide ((w64 (v3 + (1 : Int))) < (v0.length : Int))) || !((((List.getD v0 (Int.toNat (w64 (v3 + (1 : Int)))) 0).toNat : Nat) : Int) != (34 : Int))) then (bif (bif ((((List.getD v0 (Int.toNat (w64 (v3 + (1 : Int)))) 0).toNat : Nat) : Int) != (34 : Int)) then ((((List.getD v0 (Int.toNat (w64 (v3 + (1 : Int)))) 0).toNat : Nat) : Int) != (92 : Int)) else false) then (bif (decide ((v2.length + ([(92 : Int)] : List Int).length) * 1 ≤ maxBytes)) then (bif (decide ((0 : Int) ≤ (w64 (v3 + (1 : Int)))) && decide ((w64 (v3 + (1 : Int))) < (v0.length : Int))) then (bif (decide (((v2 ++ ([(92 : Int)] : List Int)).length + ([(((List.getD v0 (Int.toNat (w64 (v3 + (1 : Int)))) 0).toNat : Nat) : Int)] : List Int).length) * 1 ≤ maxBytes)) then (d274_m103 f v0 v1 ((v2 ++ ([(92 : Int)] : List Int)) ++ ([(((List.getD v0 (Int.toNat (w64 (v3 + (1 : Int)))) 0).toNat : Nat) : Int)] : List Int)) (w64 ((w64 (v3 + (1 : Int))) + (1 : Int))) v4) else (none)) else (none)) else (none)) else (bif (decide ((0 : Int) ≤ (w64 (v3 + (1 : Int)))) && decide ((w64 (v3 + (1 : Int))) < (v0.length : Int))) then (bif (decide ((v2.length + ([(((List.getD v0 (Int.toNat (w64 (v3 + (1 : Int)))) 0).toNat : Nat) : Int)] : List Int).length) * 1 ≤ maxBytes)) then (d274_m103 f v0 v1 (v2 ++ ([(((List.getD v0 (Int.toNat (w64 (v3 + (1 : Int)))) 0).toNat : Nat) : Int)] : List Int)) (w64 ((w64 (v3 + (1 : Int))) + (1 : Int))) v4) else (none)) else (none))) else (none)) else (none)) else (bif (decide ((0 : Int) ≤ v3) && decide (v3 < (v0.length : Int))) then (bif (decide ((v2.length + ([(((List.getD v0 (Int.toNat v3) 0).toNat : Nat) : Int)] : List Int).length) * 1 ≤ maxBytes)) then (d274_m103 f v0 v1 (v2 ++ ([(((List.getD v0 (Int.toNat v3) 0).toNat : Nat) : Int)] : List Int)) (w64 (v3 + (1 : Int))) v4) else (none)) else (none))) else (none))) else (none))) else (none)
end
noncomputable def d274_m (x0 : List UInt8) : Option ((List (List UInt8)) × Int) := let y37 : Int := (x0.length : Int); bif ((0 : Int) == y37) then (d274_m100 1000000000 ([] : List (List UInt8)) ([] : List Int) false) else (bif (decide ((0 : Int) ≤ (0 : Int)) && decide ((0 : Int) < (x0.length : Int))) then (bif (d301_k (((List.getD x0 (Int.toNat (0 : Int)) 0).toNat : Nat) : Int)) then (let y38 : Bool := (d301_r0 (((List.getD x0 (Int.toNat (0 : Int)) 0).toNat : Nat) : Int)); bif y38 then (d274_m101 1000000000 x0 ([] : List (List UInt8)) ([] : List Int) (1 : Int) false) else (bif (decide ((0 : Int) ≤ (0 : Int)) && decide ((0 : Int) < (x0.length : Int))) then (bif ((((List.getD x0 (Int.toNat (0 : Int)) 0).toNat : Nat) : Int) == (39 : Int)) then (d274_m102 1000000000 x0 ([] : List (List UInt8)) ([] : List Int) (1 : Int) true) else (bif (decide ((0 : Int) ≤ (0 : Int)) && decide ((0 : Int) < (x0.length : Int))) then (bif ((((List.getD x0 (Int.toNat (0 : Int)) 0).toNat : Nat) : Int) == (34 : Int)) then (d274_m103 1000000000 x0 ([] : List (List UInt8)) ([] : List Int) (1 : Int) true) else (bif (decide ((0 : Int) ≤ (0 : Int)) && decide ((0 : Int) < (x0.length : Int))) then (bif ((((List.getD x0 (Int.toNat (0 : Int)) 0).toNat : Nat) : Int) == (92 : Int)) then (let y39 : Int := (x0.length : Int); bif ((1 : Int) == y39) then (some (([] : List (List UInt8)), (3 : Int))) else (bif (decide ((0 : Int) ≤ (1 : Int)) && decide ((1 : Int) < (x0.length : Int))) then (bif (decide (([(((List.getD x0 (Int.toNat (1 : Int)) 0).toNat : Nat) : Int)] : List Int).length * 1 ≤ maxBytes)) then (d274_m101 1000000000 x0 ([] : List (List UInt8)) ([(((List.getD x0 (Int.toNat (1 : Int)) 0).toNat : Nat) : Int)] : List Int) (2 : Int) true) else (none)) else (none))) else (bif (decide ((0 : Int) ≤ (0 : Int)) && decide ((0 : Int) < (x0.length : Int))) then (bif (decide (([(((List.getD x0 (Int.toNat (0 : Int)) 0).toNat : Nat) : Int)] : List Int).length * 1 ≤ maxBytes)) then (d274_m101 1000000000 x0 ([] : List (List UInt8)) ([(((List.getD x0 (Int.toNat (0 : Int)) 0).toNat : Nat) : Int)] : List Int) (1 : Int) true) else (none)) else (none))) else (none))) else (none))) else (none))) else (none)) else (none))
noncomputable def d274_k (x0 : List UInt8) : Bool := (d274_m x0).isSome
noncomputable def d274_r0 (x0 : List UInt8) : List (List UInt8) := ((d274_m x0).getD (dflt .l_str, dflt .api_Errno)).1
noncomputable def d274_r1 (x0 : List UInt8) : Int := ((d274_m x0).getD (dflt .l_str, dflt .api_Errno)).2
noncomputable def d274_W : FnW E := fn12 (E := E) .str .l_str .api_Errno d274_k d274_r0 d274_r1
def d274_id : FuncId := 274
noncomputable def d274_O : Oracle E := orac [(301, d301_W), (205, sidxb_W)] [] [] []
noncomputable def d274_H : Hint E := Hint.mk [(100, [4, 5, 7]), (101, [0, 4, 5, 6, 7]), (102, [0, 4, 5, 6, 7]), (103, [0, 4, 5, 6, 7])] [] [(100, [(5, none, true, .byte), (4, none, true, .str)]), (101, [(5, none, true, .byte), (4, none, true, .str)]), (102, [(4, none, true, .str), (5, none, true, .byte)]), (103, [(4, none, true, .str), (5, none, true, .byte)])] [] [] 5 []
noncomputable def d274_C100 (v0 : List (List UInt8)) (v1 : List Int) (v2 : Bool) : ASt E := ASt.mk 141 [(4, .grow .str v0 0), (5, .grow .byte v1 1), (7, .d (.bool v2))] [(0, .tail true), (1, .tail true)] 2
noncomputable def d274_C101 (v0 : List UInt8) (v1 : List (List UInt8)) (v2 : List Int) (v3 : Int) (v4 : Bool) : ASt E := ASt.mk 141 [(0, .d (.str v0)), (4, .grow .str v1 0), (5, .grow .byte v2 1), (6, .d (.int .i64 v3)), (7, .d (.bool v4))] [(0, .tail true), (1, .tail true)] 2
noncomputable def d274_C102 (v0 : List UInt8) (v1 : List (List UInt8)) (v2 : List Int) (v3 : Int) (v4 : Bool) : ASt E := ASt.mk 141 [(0, .d (.str v0)), (4, .grow .str v1 0), (5, .grow .byte v2 1), (6, .d (.int .i64 v3)), (7, .d (.bool v4))] [(0, .tail true), (1, .tail true)] 2
noncomputable def d274_C103 (v0 : List UInt8) (v1 : List (List UInt8)) (v2 : List Int) (v3 : Int) (v4 : Bool) : ASt E := ASt.mk 141 [(0, .d (.str v0)), (4, .grow .str v1 0), (5, .grow .byte v2 1), (6, .d (.int .i64 v3)), (7, .d (.bool v4))] [(0, .tail true), (1, .tail true)] 2
noncomputable def d274_t (G : Nat → ASt E → Option (List (TV E))) (x0 : List UInt8) : Option (List (TV E)) :=
  let y37 : Int := (x0.length : Int); bif ((0 : Int) == y37) then G 100 (d274_C100 [] ([] : List Int) false) else (bif (decide ((0 : Int) ≤ (0 : Int)) && decide ((0 : Int) < (x0.length : Int))) then (bif (d301_k (((List.getD x0 (Int.toNat 0) 0).toNat : Nat) : Int)) then (let y38 : Bool := (d301_r0 (((List.getD x0 (Int.toNat 0) 0).toNat : Nat) : Int)); bif y38 then G 101 (d274_C101 x0 [] ([] : List Int) 1 false) else (bif (decide ((0 : Int) ≤ (0 : Int)) && decide ((0 : Int) < (x0.length : Int))) then (bif ((((List.getD x0 (Int.toNat 0) 0).toNat : Nat) : Int) == (39 : Int)) then G 102 (d274_C102 x0 [] ([] : List Int) 1 true) else (bif (decide ((0 : Int) ≤ (0 : Int)) && decide ((0 : Int) < (x0.length : Int))) then (bif ((((List.getD x0 (Int.toNat 0) 0).toNat : Nat) : Int) == (34 : Int)) then G 103 (d274_C103 x0 [] ([] : List Int) 1 true) else (bif (decide ((0 : Int) ≤ (0 : Int)) && decide ((0 : Int) < (x0.length : Int))) then (bif ((((List.getD x0 (Int.toNat 0) 0).toNat : Nat) : Int) == (92 : Int)) then (let y39 : Int := (x0.length : Int); bif ((1 : Int) == y39) then some [⟨.l_str, ([] : List (List UInt8))⟩, ⟨.api_Errno, (3 : Int)⟩] else (bif (decide ((0 : Int) ≤ (1 : Int)) && decide ((1 : Int) < (x0.length : Int))) then (bif (decide (([(((List.getD x0 (Int.toNat 1) 0).toNat : Nat) : Int)] : List Int).length * 1 ≤ maxBytes)) then G 101 (d274_C101 x0 [] ([(((List.getD x0 (Int.toNat 1) 0).toNat : Nat) : Int)] : List Int) 2 true) else none) else none)) else (bif (decide ((0 : Int) ≤ (0 : Int)) && decide ((0 : Int) < (x0.length : Int))) then (bif (decide (([(((List.getD x0 (Int.toNat 0) 0).toNat : Nat) : Int)] : List Int).length * 1 ≤ maxBytes)) then G 101 (d274_C101 x0 [] ([(((List.getD x0 (Int.toNat 0) 0).toNat : Nat) : Int)] : List Int) 1 true) else none) else none)) else none)) else none)) else none)) else none) else none)
theorem d274_e (G : Nat → ASt E → Option (List (TV E))) (x0 : List UInt8) : runE d274_O d274_H G Tryz.f274 [⟨.str, x0⟩] = d274_t G x0 := by kernel_rfl
noncomputable def d274_t100 (_G : Nat → ASt E → Option (List (TV E))) (v0 : List (List UInt8)) (v1 : List Int) (v2 : Bool) : Option (List (TV E)) :=
  bif v2 then (bif (decide ((v0.length + ([(List.map (fun y => UInt8.ofNat (Int.toNat y)) v1)] : List (List UInt8)).length) * 16 ≤ maxBytes)) then (let y40 : Int := ((v0 ++ ([(List.map (fun y => UInt8.ofNat (Int.toNat y)) v1)] : List (List UInt8))).length : Int); bif (decide ((32 : Int) < y40)) then some [⟨.l_str, ([] : List (List UInt8))⟩, ⟨.api_Errno, (9 : Int)⟩] else some [⟨.l_str, (v0 ++ ([(List.map (fun y => UInt8.ofNat (Int.toNat y)) v1)] : List (List UInt8)))⟩, ⟨.api_Errno, (0 : Int)⟩]) else none) else (let y41 : Int := (v0.length : Int); bif (decide ((32 : Int) < y41)) then some [⟨.l_str, ([] : List (List UInt8))⟩, ⟨.api_Errno, (9 : Int)⟩] else some [⟨.l_str, v0⟩, ⟨.api_Errno, (0 : Int)⟩])
theorem d274_l100 (G : Nat → ASt E → Option (List (TV E))) (v0 : List (List UInt8)) (v1 : List Int) (v2 : Bool) : runL d274_O d274_H G Tryz.f274 100 (d274_C100 v0 v1 v2) = d274_t100 G v0 v1 v2 := by kernel_rfl
noncomputable def d274_t101 (G : Nat → ASt E → Option (List (TV E))) (v0 : List UInt8) (v1 : List (List UInt8)) (v2 : List Int) (v3 : Int) (v4 : Bool) : Option (List (TV E)) :=
  let y42 : Int := (v0.length : Int); bif (v3 == y42) then G 100 (d274_C100 v1 v2 v4) else (bif (decide ((0 : Int) ≤ v3) && decide (v3 < (v0.length : Int))) then (bif (d301_k (((List.getD v0 (Int.toNat v3) 0).toNat : Nat) : Int)) then (let y43 : Bool := (d301_r0 (((List.getD v0 (Int.toNat v3) 0).toNat : Nat) : Int)); bif y43 then (bif v4 then (bif (decide ((v1.length + ([(List.map (fun y => UInt8.ofNat (Int.toNat y)) v2)] : List (List UInt8)).length) * 16 ≤ maxBytes)) then G 101 (d274_C101 v0 (v1 ++ ([(List.map (fun y => UInt8.ofNat (Int.toNat y)) v2)] : List (List UInt8))) ([] : List Int) (w64 (v3 + (1 : Int))) false) else none) else G 101 (d274_C101 v0 v1 v2 (w64 (v3 + (1 : Int))) v4)) else (bif (decide ((0 : Int) ≤ v3) && decide (v3 < (v0.length : Int))) then (bif ((((List.getD v0 (Int.toNat v3) 0).toNat : Nat) : Int) == (39 : Int)) then G 102 (d274_C102 v0 v1 v2 (w64 (v3 + (1 : Int))) true) else (bif (decide ((0 : Int) ≤ v3) && decide (v3 < (v0.length : Int))) then (bif ((((List.getD v0 (Int.toNat v3) 0).toNat : Nat) : Int) == (34 : Int)) then G 103 (d274_C103 v0 v1 v2 (w64 (v3 + (1 : Int))) true) else (bif (decide ((0 : Int) ≤ v3) && decide (v3 < (v0.length : Int))) then (bif ((((List.getD v0 (Int.toNat v3) 0).toNat : Nat) : Int) == (92 : Int)) then (let y44 : Int := (v0.length : Int); bif ((w64 (v3 + (1 : Int))) == y44) then some [⟨.l_str, ([] : List (List UInt8))⟩, ⟨.api_Errno, (3 : Int)⟩] else (bif (decide ((0 : Int) ≤ (w64 (v3 + (1 : Int)))) && decide ((w64 (v3 + (1 : Int))) < (v0.length : Int))) then (bif (decide ((v2.length + ([(((List.getD v0 (Int.toNat (w64 (v3 + (1 : Int)))) 0).toNat : Nat) : Int)] : List Int).length) * 1 ≤ maxBytes)) then G 101 (d274_C101 v0 v1 (v2 ++ ([(((List.getD v0 (Int.toNat (w64 (v3 + (1 : Int)))) 0).toNat : Nat) : Int)] : List Int)) (w64 ((w64 (v3 + (1 : Int))) + (1 : Int))) true) else none) else none)) else (bif (decide ((0 : Int) ≤ v3) && decide (v3 < (v0.length : Int))) then (bif (decide ((v2.length + ([(((List.getD v0 (Int.toNat v3) 0).toNat : Nat) : Int)] : List Int).length) * 1 ≤ maxBytes)) then G 101 (d274_C101 v0 v1 (v2 ++ ([(((List.getD v0 (Int.toNat v3) 0).toNat : Nat) : Int)] : List Int)) (w64 (v3 + (1 : Int))) true) else none) else none)) else none)) else none)) else none)) else none) else none)
theorem d274_l101 (G : Nat → ASt E → Option (List (TV E))) (v0 : List UInt8) (v1 : List (List UInt8)) (v2 : List Int) (v3 : Int) (v4 : Bool) : runL d274_O d274_H G Tryz.f274 101 (d274_C101 v0 v1 v2 v3 v4) = d274_t101 G v0 v1 v2 v3 v4 := by kernel_rfl
noncomputable def d274_t102 (G : Nat → ASt E → Option (List (TV E))) (v0 : List UInt8) (v1 : List (List UInt8)) (v2 : List Int) (v3 : Int) (v4 : Bool) : Option (List (TV E)) :=
  bif (decide ((0 : Int) ≤ v3) && decide (v3 ≤ (v0.length : Int)) && decide ((v0.length : Int) ≤ (v0.length : Int))) then (let y45 : Int := (ixbV (List.take (Int.toNat (v0.length : Int) - Int.toNat v3) (List.drop (Int.toNat v3) v0)) 39); bif (decide ((0 : Int) ≤ y45)) then (bif (decide ((0 : Int) ≤ v3) && decide (v3 ≤ (w64 (v3 + y45))) && decide ((w64 (v3 + y45)) ≤ (v0.length : Int))) then (bif (decide ((v2.length + (List.map (fun b : UInt8 => ((b.toNat : Nat) : Int)) (List.take (Int.toNat (w64 (v3 + y45)) - Int.toNat v3) (List.drop (Int.toNat v3) v0))).length) * 1 ≤ maxBytes)) then G 101 (d274_C101 v0 v1 (v2 ++ (List.map (fun b : UInt8 => ((b.toNat : Nat) : Int)) (List.take (Int.toNat (w64 (v3 + y45)) - Int.toNat v3) (List.drop (Int.toNat v3) v0)))) (w64 (v3 + (w64 (y45 + (1 : Int))))) v4) else none) else none) else some [⟨.l_str, ([] : List (List UInt8))⟩, ⟨.api_Errno, (3 : Int)⟩]) else none
theorem d274_l102 (G : Nat → ASt E → Option (List (TV E))) (v0 : List UInt8) (v1 : List (List UInt8)) (v2 : List Int) (v3 : Int) (v4 : Bool) : runL d274_O d274_H G Tryz.f274 102 (d274_C102 v0 v1 v2 v3 v4) = d274_t102 G v0 v1 v2 v3 v4 := by kernel_rfl
noncomputable def d274_t103 (G : Nat → ASt E → Option (List (TV E))) (v0 : List UInt8) (v1 : List (List UInt8)) (v2 : List Int) (v3 : Int) (v4 : Bool) : Option (List (TV E)) :=
  let y46 : Int := (v0.length : Int); bif ((decide ((0 : Int) ≤ v3) && decide (v3 < (v0.length : Int))) || !((!(v3 == y46)) && ((w64 (v3 + (1 : Int))) == (v0.length : Int)))) then (bif (bif (v3 == y46) then true else (bif ((w64 (v3 + (1 : Int))) == (v0.length : Int)) then ((((List.getD v0 (Int.toNat v3) 0).toNat : Nat) : Int) == (92 : Int)) else false)) then some [⟨.l_str, ([] : List (List UInt8))⟩, ⟨.api_Errno, (3 : Int)⟩] else (bif (decide ((0 : Int) ≤ v3) && decide (v3 < (v0.length : Int))) then (bif ((((List.getD v0 (Int.toNat v3) 0).toNat : Nat) : Int) == (34 : Int)) then G 101 (d274_C101 v0 v1 v2 (w64 (v3 + (1 : Int))) v4) else (bif (decide ((0 : Int) ≤ v3) && decide (v3 < (v0.length : Int))) then (bif ((((List.getD v0 (Int.toNat v3) 0).toNat : Nat) : Int) == (92 : Int)) then (bif (decide ((0 : Int) ≤ (w64 (v3 + (1 : Int)))) && decide ((w64 (v3 + (1 : Int))) < (v0.length : Int))) then (bif ((decide ((0 : Int) ≤ (w64 (v3 + (1 : Int)))) && decide ((w64 (v3 + (1 : Int))) < (v0.length : Int))) || !((((List.getD v0 (Int.toNat (w64 (v3 + (1 : Int)))) 0).toNat : Nat) : Int) != (34 : Int))) then (bif (bif ((((List.getD v0 (Int.toNat (w64 (v3 + (1 : Int)))) 0).toNat : Nat) : Int) != (34 : Int)) then ((((List.getD v0 (Int.toNat (w64 (v3 + (1 : Int)))) 0).toNat : Nat) : Int) != (92 : Int)) else false) then (bif (decide ((v2.length + ([(92 : Int)] : List Int).length) * 1 ≤ maxBytes)) then (bif (decide ((0 : Int) ≤ (w64 (v3 + (1 : Int)))) && decide ((w64 (v3 + (1 : Int))) < (v0.length : Int))) then (bif (decide (((v2 ++ ([(92 : Int)] : List Int)).length + ([(((List.getD v0 (Int.toNat (w64 (v3 + (1 : Int)))) 0).toNat : Nat) : Int)] : List Int).length) * 1 ≤ maxBytes)) then G 103 (d274_C103 v0 v1 ((v2 ++ ([(92 : Int)] : List Int)) ++ ([(((List.getD v0 (Int.toNat (w64 (v3 + (1 : Int)))) 0).toNat : Nat) : Int)] : List Int)) (w64 ((w64 (v3 + (1 : Int))) + (1 : Int))) v4) else none) else none) else none) else (bif (decide ((0 : Int) ≤ (w64 (v3 + (1 : Int)))) && decide ((w64 (v3 + (1 : Int))) < (v0.length : Int))) then (bif (decide ((v2.length + ([(((List.getD v0 (Int.toNat (w64 (v3 + (1 : Int)))) 0).toNat : Nat) : Int)] : List Int).length) * 1 ≤ maxBytes)) then G 103 (d274_C103 v0 v1 (v2 ++ ([(((List.getD v0 (Int.toNat (w64 (v3 + (1 : Int)))) 0).toNat : Nat) : Int)] : List Int)) (w64 ((w64 (v3 + (1 : Int))) + (1 : Int))) v4) else none) else none)) else none) else none) else (bif (decide ((0 : Int) ≤ v3) && decide (v3 < (v0.length : Int))) then (bif (decide ((v2.length + ([(((List.getD v0 (Int.toNat v3) 0).toNat : Nat) : Int)] : List Int).length) * 1 ≤ maxBytes)) then G 103 (d274_C103 v0 v1 (v2 ++ ([(((List.getD v0 (Int.toNat v3) 0).toNat : Nat) : Int)] : List Int)) (w64 (v3 + (1 : Int))) v4) else none) else none)) else none)) else none)) else none
theorem d274_l103 (G : Nat → ASt E → Option (List (TV E))) (v0 : List UInt8) (v1 : List (List UInt8)) (v2 : List Int) (v3 : Int) (v4 : Bool) : runL d274_O d274_H G Tryz.f274 103 (d274_C103 v0 v1 v2 v3 v4) = d274_t103 G v0 v1 v2 v3 v4 := by kernel_rfl
theorem d274_f : Tryz.prog.funcs[274]? = some Tryz.f274 := by kernel_rfl
theorem d274_n : (Tryz.f274.name == "runtime.NumGoroutine") = false := by kernel_rfl
theorem d274_b : Tryz.f274.body.isNone = false := by kernel_rfl
theorem d274_hO : OracleOk E d274_O := orac_ok (.cons d301_ok (.cons sidxb_ok .nil)) .nil .nil .nil
theorem d274_s100 {res : List (TV E)} {v0 : List (List UInt8)} {v1 : List Int} {v2 : Bool} (h : d274_t100 (Gr E Tryz.f274 res) v0 v1 v2 = some res) : Ev E Tryz.f274 res 100 (d274_C100 v0 v1 v2) := Ev.step d274_hO mix ((d274_l100 _ v0 v1 v2).trans h)
theorem d274_s101 {res : List (TV E)} {v0 : List UInt8} {v1 : List (List UInt8)} {v2 : List Int} {v3 : Int} {v4 : Bool} (h : d274_t101 (Gr E Tryz.f274 res) v0 v1 v2 v3 v4 = some res) : Ev E Tryz.f274 res 101 (d274_C101 v0 v1 v2 v3 v4) := Ev.step d274_hO mix ((d274_l101 _ v0 v1 v2 v3 v4).trans h)
theorem d274_s102 {res : List (TV E)} {v0 : List UInt8} {v1 : List (List UInt8)} {v2 : List Int} {v3 : Int} {v4 : Bool} (h : d274_t102 (Gr E Tryz.f274 res) v0 v1 v2 v3 v4 = some res) : Ev E Tryz.f274 res 102 (d274_C102 v0 v1 v2 v3 v4) := Ev.step d274_hO mix ((d274_l102 _ v0 v1 v2 v3 v4).trans h)
theorem d274_s103 {res : List (TV E)} {v0 : List UInt8} {v1 : List (List UInt8)} {v2 : List Int} {v3 : Int} {v4 : Bool} (h : d274_t103 (Gr E Tryz.f274 res) v0 v1 v2 v3 v4 = some res) : Ev E Tryz.f274 res 103 (d274_C103 v0 v1 v2 v3 v4) := Ev.step d274_hO mix ((d274_l103 _ v0 v1 v2 v3 v4).trans h)
theorem d274_ok_of (h : ∀ (x0 : List UInt8), d274_k x0 = true → d274_t (Gr E Tryz.f274 [⟨.l_str, d274_r0 x0⟩, ⟨.api_Errno, d274_r1 x0⟩]) x0 = some [⟨.l_str, d274_r0 x0⟩, ⟨.api_Errno, d274_r1 x0⟩]) : FnOk E d274_id d274_W := fn12_ok d274_hO mix d274_f d274_n d274_b (fun x0 hk => (d274_e _ x0).trans (h x0 hk))
theorem d274_v (f : Nat) : (∀ (v0 : List (List UInt8)) (v1 : List Int) (v2 : Bool) (r : (List (List UInt8)) × Int), d274_m100 f v0 v1 v2 = some r → Ev E Tryz.f274 [⟨.l_str, r.1⟩, ⟨.api_Errno, r.2⟩] 100 (d274_C100 v0 v1 v2)) ∧ (∀ (v0 : List UInt8) (v1 : List (List UInt8)) (v2 : List Int) (v3 : Int) (v4 : Bool) (r : (List (List UInt8)) × Int), d274_m101 f v0 v1 v2 v3 v4 = some r → Ev E Tryz.f274 [⟨.l_str, r.1⟩, ⟨.api_Errno, r.2⟩] 101 (d274_C101 v0 v1 v2 v3 v4)) ∧ (∀ (v0 : List UInt8) (v1 : List (List UInt8)) (v2 : List Int) (v3 : Int) (v4 : Bool) (r : (List (List UInt8)) × Int), d274_m102 f v0 v1 v2 v3 v4 = some r → Ev E Tryz.f274 [⟨.l_str, r.1⟩, ⟨.api_Errno, r.2⟩] 102 (d274_C102 v0 v1 v2 v3 v4)) ∧ (∀ (v0 : List UInt8) (v1 : List (List UInt8)) (v2 : List Int) (v3 : Int) (v4 : Bool) (r : (List (List UInt8)) × Int), d274_m103 f v0 v1 v2 v3 v4 = some r → Ev E Tryz.f274 [⟨.l_str, r.1⟩, ⟨.api_Errno, r.2⟩] 103 (d274_C103 v0 v1 v2 v3 v4)) := by
  induction f with
  | zero => exact ⟨(fun _ _ _ _ h => by cases h), (fun _ _ _ _ _ _ h => by cases h), (fun _ _ _ _ _ _ h => by cases h), (fun _ _ _ _ _ _ h => by cases h)⟩
  | succ f ih =>
    obtain ⟨ih0, ih1, ih2, ih3⟩ := ih
    exact ⟨(fun v0 v1 v2 r h => d274_s100 (by unfold d274_m100 at h; unfold d274_t100; exact (bif2 h (fun h => (bif2 h (fun h => (bif2 h (fun h => (by have h := Option.some.inj h; subst h; exact rfl)) fun h => (by have h := Option.some.inj h; subst h; exact rfl))) fun h => (by cases h))) fun h => (bif2 h (fun h => (by have h := Option.some.inj h; subst h; exact rfl)) fun h => (by have h := Option.some.inj h; subst h; exact rfl))))), (fun v0 v1 v2 v3 v4 r h => d274_s101 (by unfold d274_m101 at h; unfold d274_t101; exact (bif2 h (fun h => (Gr_of (ih0 _ _ _ _ h))) fun h => (bif2 h (fun h => (bif2 h (fun h => (bif2 h (fun h => (bif2 h (fun h => (bif2 h (fun h => (Gr_of (ih1 _ _ _ _ _ _ h))) fun h => (by cases h))) fun h => (Gr_of (ih1 _ _ _ _ _ _ h)))) fun h => (bif2 h (fun h => (bif2 h (fun h => (Gr_of (ih2 _ _ _ _ _ _ h))) fun h => (bif2 h (fun h => (bif2 h (fun h => (Gr_of (ih3 _ _ _ _ _ _ h))) fun h => (bif2 h (fun h => (bif2 h (fun h => (bif2 h (fun h => (by have h := Option.some.inj h; subst h; exact rfl)) fun h => (bif2 h (fun h => (bif2 h (fun h => (Gr_of (ih1 _ _ _ _ _ _ h))) fun h => (by cases h))) fun h => (by cases h)))) fun h => (bif2 h (fun h => (bif2 h (fun h => (Gr_of (ih1 _ _ _ _ _ _ h))) fun h => (by cases h))) fun h => (by cases h)))) fun h => (by cases h)))) fun h => (by cases h)))) fun h => (by cases h)))) fun h => (by cases h))) fun h => (by cases h))))), (fun v0 v1 v2 v3 v4 r h => d274_s102 (by unfold d274_m102 at h; unfold d274_t102; exact (bif2 h (fun h => (bif2 h (fun h => (bif2 h (fun h => (bif2 h (fun h => (Gr_of (ih1 _ _ _ _ _ _ h))) fun h => (by cases h))) fun h => (by cases h))) fun h => (by have h := Option.some.inj h; subst h; exact rfl))) fun h => (by cases h)))), (fun v0 v1 v2 v3 v4 r h => d274_s103 (by unfold d274_m103 at h; unfold d274_t103; exact (bif2 h (fun h => (bif2 h (fun h => (by have h := Option.some.inj h; subst h; exact rfl)) fun h => (bif2 h (fun h => (bif2 h (fun h => (Gr_of (ih1 _ _ _ _ _ _ h))) fun h => (bif2 h (fun h => (bif2 h (fun h => (bif2 h (fun h => (bif2 h (fun h => (bif2 h (fun h => (bif2 h (fun h => (bif2 h (fun h => (bif2 h (fun h => (Gr_of (ih3 _ _ _ _ _ _ h))) fun h => (by cases h))) fun h => (by cases h))) fun h => (by cases h))) fun h => (bif2 h (fun h => (bif2 h (fun h => (Gr_of (ih3 _ _ _ _ _ _ h))) fun h => (by cases h))) fun h => (by cases h)))) fun h => (by cases h))) fun h => (by cases h))) fun h => (bif2 h (fun h => (bif2 h (fun h => (Gr_of (ih3 _ _ _ _ _ _ h))) fun h => (by cases h))) fun h => (by cases h)))) fun h => (by cases h)))) fun h => (by cases h)))) fun h => (by cases h))))⟩
theorem d274_ok : FnOk E d274_id d274_W := d274_ok_of fun x0 hk => by
  have h := some_of (d := (dflt .l_str, dflt .api_Errno)) hk
  unfold d274_t
  generalize hr : (d274_m x0).getD (dflt .l_str, dflt .api_Errno) = r at h
  rw [show d274_r0 x0 = r.1 from congrArg (fun z => z.1) hr]; rw [show d274_r1 x0 = r.2 from congrArg (fun z => z.2) hr];
  unfold d274_m at h
  exact (bif2 h (fun h => (Gr_of ((d274_v _).1 _ _ _ _ h))) fun h => (bif2 h (fun h => (bif2 h (fun h => (bif2 h (fun h => (Gr_of ((d274_v _).2.1 _ _ _ _ _ _ h))) fun h => (bif2 h (fun h => (bif2 h (fun h => (Gr_of ((d274_v _).2.2.1 _ _ _ _ _ _ h))) fun h => (bif2 h (fun h => (bif2 h (fun h => (Gr_of ((d274_v _).2.2.2 _ _ _ _ _ _ h))) fun h => (bif2 h (fun h => (bif2 h (fun h => (bif2 h (fun h => (by have h := Option.some.inj h; subst h; exact rfl)) fun h => (bif2 h (fun h => (bif2 h (fun h => (Gr_of ((d274_v _).2.1 _ _ _ _ _ _ h))) fun h => (by cases h))) fun h => (by cases h)))) fun h => (bif2 h (fun h => (bif2 h (fun h => (Gr_of ((d274_v _).2.1 _ _ _ _ _ _ h))) fun h => (by cases h))) fun h => (by cases h)))) fun h => (by cases h)))) fun h => (by cases h)))) fun h => (by cases h)))) fun h => (by cases h))) fun h => (by cases h)))
noncomputable def d275_m0 : Nat → List (List UInt8) → Int → Int → Int → List UInt8 → Int → List UInt8 → List Node → Option (Node)
  | 0, _, _, _, _, _, _, _, _ => none
  | f + 1, v0, v1, v2, v3, v4, v5, v6, v7 => bif (decide (v2 < v1)) then (bif (decide ((0 : Int) ≤ v2) && decide (v2 < (v0.length : Int))) then (let y4 : Node := (txt1 (List.getD v0 (Int.toNat v2) (dflt .str))); bif (decide ((v7.length + ([y4] : List Node).length) * 72 ≤ maxBytes)) then (d275_m0 f v0 v1 (w64 (v2 + (1 : Int))) v3 v4 v5 v6 (v7 ++ ([y4] : List Node))) else (none)) else (none)) else (some ((⟨v5, v6, ([] : List (List UInt8)), v7⟩ : Node)))
noncomputable def d275_m (x0 : List (List UInt8)) : Option (Node) := let y3 : Int := (x0.length : Int); d275_m0 1000000000 x0 y3 (0 : Int) (0 : Int) ([] : List UInt8) (2 : Int) ([] : List UInt8) ([] : List Node)
noncomputable def d275_k (x0 : List (List UInt8)) : Bool := (d275_m x0).isSome
noncomputable def d275_r0 (x0 : List (List UInt8)) : Node := ((d275_m x0).getD (dflt .api_Node))
noncomputable def d275_W : FnW E := fn1 (E := E) .l_str .api_Node d275_k d275_r0
def d275_id : FuncId := 275
noncomputable def d275_O : Oracle E := orac [(98, ntext_W)] [] [] []
noncomputable def d275_H : Hint E := Hint.mk [(0, [2, 3, 7, 8, 9])] [] [(0, [(3, some 3, true, .api_Node)])] [] [] 5 []
noncomputable def d275_C0 (v0 : List (List UInt8)) (v1 v2 v3 : Int) (v4 : List UInt8) (v5 : Int) (v6 : List UInt8) (v7 : List Node) : ASt E := ASt.mk 22 [(2, .ptr 0 0), (3, .ptr 1 0), (7, .d (.slice .str v0)), (8, .d (.int .i64 v1)), (9, .d (.int .i64 v2))] [(0, .box [.d (.int .i64 v3), .d (.str v4), .d (.raw (.slice none 0 0)), .d (.raw (.slice none 0 0))]), (1, .box [.d (.int .i64 v5), .d (.str v6), .d (.raw (.slice none 0 0)), .grow .api_Node v7 2]), (2, .tail true)] 3
noncomputable def d275_t (G : Nat → ASt E → Option (List (TV E))) (x0 : List (List UInt8)) : Option (List (TV E)) :=
  let y3 : Int := (x0.length : Int); G 0 (d275_C0 x0 y3 0 0 [] 2 [] [])
theorem d275_e (G : Nat → ASt E → Option (List (TV E))) (x0 : List (List UInt8)) : runE d275_O d275_H G Tryz.f275 [⟨.l_str, x0⟩] = d275_t G x0 := by kernel_rfl
noncomputable def d275_t0 (G : Nat → ASt E → Option (List (TV E))) (v0 : List (List UInt8)) (v1 v2 v3 : Int) (v4 : List UInt8) (v5 : Int) (v6 : List UInt8) (v7 : List Node) : Option (List (TV E)) :=
  bif (decide (v2 < v1)) then (bif (decide ((0 : Int) ≤ v2) && decide (v2 < (v0.length : Int))) then (let y4 : Node := (txt1 (List.getD v0 (Int.toNat v2) (dflt .str))); bif (decide ((v7.length + ([y4] : List Node).length) * 72 ≤ maxBytes)) then G 0 (d275_C0 v0 v1 (w64 (v2 + (1 : Int))) v3 v4 v5 v6 (v7 ++ ([y4] : List Node))) else none) else none) else some [⟨.api_Node, (⟨v5, v6, [], v7⟩ : Node)⟩]
theorem d275_l0 (G : Nat → ASt E → Option (List (TV E))) (v0 : List (List UInt8)) (v1 v2 v3 : Int) (v4 : List UInt8) (v5 : Int) (v6 : List UInt8) (v7 : List Node) : runL d275_O d275_H G Tryz.f275 0 (d275_C0 v0 v1 v2 v3 v4 v5 v6 v7) = d275_t0 G v0 v1 v2 v3 v4 v5 v6 v7 := by kernel_rfl
theorem d275_f : Tryz.prog.funcs[275]? = some Tryz.f275 := by kernel_rfl
theorem d275_n : (Tryz.f275.name == "runtime.NumGoroutine") = false := by kernel_rfl
theorem d275_b : Tryz.f275.body.isNone = false := by kernel_rfl
theorem d275_hO : OracleOk E d275_O := orac_ok (.cons ntext_ok .nil) .nil .nil .nil
theorem d275_s0 {res : List (TV E)} {v0 : List (List UInt8)} {v1 v2 v3 : Int} {v4 : List UInt8} {v5 : Int} {v6 : List UInt8} {v7 : List Node} (h : d275_t0 (Gr E Tryz.f275 res) v0 v1 v2 v3 v4 v5 v6 v7 = some res) : Ev E Tryz.f275 res 0 (d275_C0 v0 v1 v2 v3 v4 v5 v6 v7) := Ev.step d275_hO mix ((d275_l0 _ v0 v1 v2 v3 v4 v5 v6 v7).trans h)
theorem d275_ok_of (h : ∀ (x0 : List (List UInt8)), d275_k x0 = true → d275_t (Gr E Tryz.f275 [⟨.api_Node, d275_r0 x0⟩]) x0 = some [⟨.api_Node, d275_r0 x0⟩]) : FnOk E d275_id d275_W := fn1_ok d275_hO mix d275_f d275_n d275_b (fun x0 hk => (d275_e _ x0).trans (h x0 hk))
theorem d275_v (f : Nat) : (∀ (v0 : List (List UInt8)) (v1 : Int) (v2 : Int) (v3 : Int) (v4 : List UInt8) (v5 : Int) (v6 : List UInt8) (v7 : List Node) (r : Node), d275_m0 f v0 v1 v2 v3 v4 v5 v6 v7 = some r → Ev E Tryz.f275 [⟨.api_Node, r⟩] 0 (d275_C0 v0 v1 v2 v3 v4 v5 v6 v7)) := by
  induction f with
  | zero => exact (fun _ _ _ _ _ _ _ _ _ h => by cases h)
  | succ f ih =>
    exact (fun v0 v1 v2 v3 v4 v5 v6 v7 r h => d275_s0 (by unfold d275_m0 at h; unfold d275_t0; exact (bif2 h (fun h => (bif2 h (fun h => (bif2 h (fun h => (Gr_of (ih _ _ _ _ _ _ _ _ _ h))) fun h => (by cases h))) fun h => (by cases h))) fun h => (by have h := Option.some.inj h; subst h; exact rfl))))
theorem d275_ok : FnOk E d275_id d275_W := d275_ok_of fun x0 hk => by
  have h := some_of (d := (dflt .api_Node)) hk
  unfold d275_t
  generalize hr : (d275_m x0).getD (dflt .api_Node) = r at h
  rw [show d275_r0 x0 = r from hr];
  unfold d275_m at h
  exact (Gr_of ((d275_v _) _ _ _ _ _ _ _ _ _ h))
noncomputable def d239_m (x0 : Node) : Option (Node × Int) := bif (d179_k (⟨x0.kind, x0.text, x0.keys, x0.kids⟩ : Node)) then (let y1 : Bool := (d179_r1 (⟨x0.kind, x0.text, x0.keys, x0.kids⟩ : Node)); bif (x0.kind == (1 : Int)) then (bif (d274_k x0.text) then (let y2 : Int := (d274_r1 x0.text); bif (!(y2 == (0 : Int))) then (some ((⟨(0 : Int), ([] : List UInt8), ([] : List (List UInt8)), ([] : List Node)⟩ : Node), (10 : Int))) else (bif (d275_k (d274_r0 x0.text)) then (let y3 : Node := (d275_r0 (d274_r0 x0.text)); some ((⟨y3.kind, y3.text, y3.keys, y3.kids⟩ : Node), (0 : Int))) else (none))) else (none)) else (bif (!y1) then (some ((⟨(0 : Int), ([] : List UInt8), ([] : List (List UInt8)), ([] : List Node)⟩ : Node), (10 : Int))) else (bif (d275_k (d179_r0 (⟨x0.kind, x0.text, x0.keys, x0.kids⟩ : Node))) then (let y4 : Node := (d275_r0 (d179_r0 (⟨x0.kind, x0.text, x0.keys, x0.kids⟩ : Node))); some ((⟨y4.kind, y4.text, y4.keys, y4.kids⟩ : Node), (0 : Int))) else (none)))) else (none)
noncomputable def d239_k (x0 : Node) : Bool := (d239_m x0).isSome
noncomputable def d239_r0 (x0 : Node) : Node := ((d239_m x0).getD (dflt .api_Node, dflt .api_Errno)).1
noncomputable def d239_r1 (x0 : Node) : Int := ((d239_m x0).getD (dflt .api_Node, dflt .api_Errno)).2
noncomputable def d239_W : FnW E := fn12 (E := E) .api_Node .api_Node .api_Errno d239_k d239_r0 d239_r1
def d239_id : FuncId := 239
noncomputable def d239_O : Oracle E := withI (orac [(275, d275_W), (179, d179_W), (274, d274_W)] [] [] []) [(213, Tryz.f213)]
noncomputable def d239_H : Hint E := Hint.mk [] [] [] [] [] 5 []
noncomputable def d239_t (_G : Nat → ASt E → Option (List (TV E))) (x0 : Node) : Option (List (TV E)) :=
  bif (d179_k ⟨x0.kind, x0.text, x0.keys, x0.kids⟩) then (let y1 : Bool := (d179_r1 ⟨x0.kind, x0.text, x0.keys, x0.kids⟩); bif (x0.kind == (1 : Int)) then (bif (d274_k x0.text) then (let y2 : Int := (d274_r1 x0.text); bif (!(y2 == (0 : Int))) then some [⟨.api_Node, (⟨0, [], [], []⟩ : Node)⟩, ⟨.api_Errno, (10 : Int)⟩] else (bif (d275_k (d274_r0 x0.text)) then (let y3 : Node := (d275_r0 (d274_r0 x0.text)); some [⟨.api_Node, (⟨y3.kind, y3.text, y3.keys, y3.kids⟩ : Node)⟩, ⟨.api_Errno, (0 : Int)⟩]) else none)) else none) else (bif (!y1) then some [⟨.api_Node, (⟨0, [], [], []⟩ : Node)⟩, ⟨.api_Errno, (10 : Int)⟩] else (bif (d275_k (d179_r0 ⟨x0.kind, x0.text, x0.keys, x0.kids⟩)) then (let y4 : Node := (d275_r0 (d179_r0 ⟨x0.kind, x0.text, x0.keys, x0.kids⟩)); some [⟨.api_Node, (⟨y4.kind, y4.text, y4.keys, y4.kids⟩ : Node)⟩, ⟨.api_Errno, (0 : Int)⟩]) else none))) else none
theorem d239_e (G : Nat → ASt E → Option (List (TV E))) (x0 : Node) : runE d239_O d239_H G Tryz.f239 [⟨.api_Node, x0⟩] = d239_t G x0 := by kernel_rfl
theorem d239_f : Tryz.prog.funcs[239]? = some Tryz.f239 := by kernel_rfl
theorem d239_n : (Tryz.f239.name == "runtime.NumGoroutine") = false := by kernel_rfl
theorem d239_b : Tryz.f239.body.isNone = false := by kernel_rfl
theorem d239_hO : OracleOk E d239_O := withI_ok (orac_ok (.cons d275_ok (.cons d179_ok (.cons d274_ok .nil))) .nil .nil .nil) mix (.cons (f := 213) (fn := Tryz.f213) (by kernel_rfl) (by kernel_rfl) (by kernel_rfl) .nil)
theorem d239_ok_of (h : ∀ (x0 : Node), d239_k x0 = true → d239_t (Gr E Tryz.f239 [⟨.api_Node, d239_r0 x0⟩, ⟨.api_Errno, d239_r1 x0⟩]) x0 = some [⟨.api_Node, d239_r0 x0⟩, ⟨.api_Errno, d239_r1 x0⟩]) : FnOk E d239_id d239_W := fn12_ok d239_hO mix d239_f d239_n d239_b (fun x0 hk => (d239_e _ x0).trans (h x0 hk))
theorem d239_ok : FnOk E d239_id d239_W := d239_ok_of fun x0 hk => by
  have h := some_of (d := (dflt .api_Node, dflt .api_Errno)) hk
  unfold d239_t
  generalize hr : (d239_m x0).getD (dflt .api_Node, dflt .api_Errno) = r at h
  rw [show d239_r0 x0 = r.1 from congrArg (fun z => z.1) hr]; rw [show d239_r1 x0 = r.2 from congrArg (fun z => z.2) hr];
  unfold d239_m at h
  exact (bif2 h (fun h => (bif2 h (fun h => (bif2 h (fun h => (bif2 h (fun h => (by have h := Option.some.inj h; subst h; exact rfl)) fun h => (bif2 h (fun h => (by have h := Option.some.inj h; subst h; exact rfl)) fun h => (by cases h)))) fun h => (by cases h))) fun h => (bif2 h (fun h => (by have h := Option.some.inj h; subst h; exact rfl)) fun h => (bif2 h (fun h => (by have h := Option.some.inj h; subst h; exact rfl)) fun h => (by cases h))))) fun h => (by cases h))
noncomputable def d302_m (x0 : Int) : Option (Bool) := bif (d207_k x0) then (some ((bif (d207_r0 x0) then true else (x0 == (95 : Int))))) else (none)
noncomputable def d302_k (x0 : Int) : Bool := (d302_m x0).isSome
noncomputable def d302_r0 (x0 : Int) : Bool := ((d302_m x0).getD (dflt .bool))
noncomputable def d302_W : FnW E := fn1 (E := E) .byte .bool d302_k d302_r0
def d302_id : FuncId := 302
noncomputable def d302_O : Oracle E := orac [(207, d207_W)] [] [] []
noncomputable def d302_H : Hint E := Hint.mk [] [] [] [] [] 5 []
noncomputable def d302_t (_G : Nat → ASt E → Option (List (TV E))) (x0 : Int) : Option (List (TV E)) :=
  bif (d207_k x0) then some [⟨.bool, (bif (d207_r0 x0) then true else (x0 == (95 : Int)))⟩] else none
theorem d302_e (G : Nat → ASt E → Option (List (TV E))) (x0 : Int) : runE d302_O d302_H G Tryz.f302 [⟨.byte, x0⟩] = d302_t G x0 := by kernel_rfl
theorem d302_f : Tryz.prog.funcs[302]? = some Tryz.f302 := by kernel_rfl
theorem d302_n : (Tryz.f302.name == "runtime.NumGoroutine") = false := by kernel_rfl
theorem d302_b : Tryz.f302.body.isNone = false := by kernel_rfl
theorem d302_hO : OracleOk E d302_O := orac_ok (.cons d207_ok .nil) .nil .nil .nil
theorem d302_ok_of (h : ∀ (x0 : Int), d302_k x0 = true → d302_t (Gr E Tryz.f302 [⟨.bool, d302_r0 x0⟩]) x0 = some [⟨.bool, d302_r0 x0⟩]) : FnOk E d302_id d302_W := fn1_ok d302_hO mix d302_f d302_n d302_b (fun x0 hk => (d302_e _ x0).trans (h x0 hk))
theorem d302_ok : FnOk E d302_id d302_W := d302_ok_of fun x0 hk => by
  have h := some_of (d := (dflt .bool)) hk
  unfold d302_t
  generalize hr : (d302_m x0).getD (dflt .bool) = r at h
  rw [show d302_r0 x0 = r from hr];
  unfold d302_m at h
  exact (bif2 h (fun h => (by have h := Option.some.inj h; subst h; exact rfl)) fun h => (by cases h))
noncomputable def d303_m (x0 : Int) : Option (Bool) := bif (d207_k x0) then (bif ((d177_k x0) || !(!(d207_r0 x0))) then (some ((bif (bif (d207_r0 x0) then true else (d177_r0 x0)) then true else (x0 == (95 : Int))))) else (none)) else (none)
noncomputable def d303_k (x0 : Int) : Bool := (d303_m x0).isSome
noncomputable def d303_r0 (x0 : Int) : Bool := ((d303_m x0).getD (dflt .bool))
noncomputable def d303_W : FnW E := fn1 (E := E) .byte .bool d303_k d303_r0
def d303_id : FuncId := 303
noncomputable def d303_O : Oracle E := orac [(207, d207_W), (177, d177_W)] [] [] []
noncomputable def d303_H : Hint E := Hint.mk [] [] [] [] [] 5 []
noncomputable def d303_t (_G : Nat → ASt E → Option (List (TV E))) (x0 : Int) : Option (List (TV E)) :=
  bif (d207_k x0) then (bif ((d177_k x0) || !(!(d207_r0 x0))) then some [⟨.bool, (bif (bif (d207_r0 x0) then true else (d177_r0 x0)) then true else (x0 == (95 : Int)))⟩] else none) else none
theorem d303_e (G : Nat → ASt E → Option (List (TV E))) (x0 : Int) : runE d303_O d303_H G Tryz.f303 [⟨.byte, x0⟩] = d303_t G x0 := by kernel_rfl
theorem d303_f : Tryz.prog.funcs[303]? = some Tryz.f303 := by kernel_rfl
theorem d303_n : (Tryz.f303.name == "runtime.NumGoroutine") = false := by kernel_rfl
theorem d303_b : Tryz.f303.body.isNone = false := by kernel_rfl
theorem d303_hO : OracleOk E d303_O := orac_ok (.cons d207_ok (.cons d177_ok .nil)) .nil .nil .nil
theorem d303_ok_of (h : ∀ (x0 : Int), d303_k x0 = true → d303_t (Gr E Tryz.f303 [⟨.bool, d303_r0 x0⟩]) x0 = some [⟨.bool, d303_r0 x0⟩]) : FnOk E d303_id d303_W := fn1_ok d303_hO mix d303_f d303_n d303_b (fun x0 hk => (d303_e _ x0).trans (h x0 hk))
theorem d303_ok : FnOk E d303_id d303_W := d303_ok_of fun x0 hk => by
  have h := some_of (d := (dflt .bool)) hk
  unfold d303_t
  generalize hr : (d303_m x0).getD (dflt .bool) = r at h
  rw [show d303_r0 x0 = r from hr];
  unfold d303_m at h
  exact (bif2 h (fun h => (bif2 h (fun h => (by have h := Option.some.inj h; subst h; exact rfl)) fun h => (by cases h))) fun h => (by cases h))
noncomputable def d186_m (x0 : List UInt8) : Option (Int) := bif (d143_k x0 (65535 : Int)) then (let y1 : Int := (d143_r0 x0 (65535 : Int)); let y2 : Int := (d143_r1 x0 (65535 : Int)); bif (bif (y2 != (0 : Int)) then true else (y1 == (0 : Int))) then (some ((-1 : Int))) else (some (y1))) else (none)
noncomputable def d186_k (x0 : List UInt8) : Bool := (d186_m x0).isSome
noncomputable def d186_r0 (x0 : List UInt8) : Int := ((d186_m x0).getD (dflt .int))
noncomputable def d186_W : FnW E := fn1 (E := E) .str .int d186_k d186_r0
def d186_id : FuncId := 186
noncomputable def d186_O : Oracle E := orac [(143, d143_W)] [] [] []
noncomputable def d186_H : Hint E := Hint.mk [] [] [] [] [] 5 []
noncomputable def d186_t (_G : Nat → ASt E → Option (List (TV E))) (x0 : List UInt8) : Option (List (TV E)) :=
  bif (d143_k x0 65535) then (let y1 : Int := (d143_r0 x0 65535); let y2 : Int := (d143_r1 x0 65535); bif (bif (y2 != (0 : Int)) then true else (y1 == (0 : Int))) then some [⟨.int, (-1 : Int)⟩] else some [⟨.int, y1⟩]) else none
theorem d186_e (G : Nat → ASt E → Option (List (TV E))) (x0 : List UInt8) : runE d186_O d186_H G Tryz.f186 [⟨.str, x0⟩] = d186_t G x0 := by kernel_rfl
theorem d186_f : Tryz.prog.funcs[186]? = some Tryz.f186 := by kernel_rfl
theorem d186_n : (Tryz.f186.name == "runtime.NumGoroutine") = false := by kernel_rfl
theorem d186_b : Tryz.f186.body.isNone = false := by kernel_rfl
theorem d186_hO : OracleOk E d186_O := orac_ok (.cons d143_ok .nil) .nil .nil .nil
theorem d186_ok_of (h : ∀ (x0 : List UInt8), d186_k x0 = true → d186_t (Gr E Tryz.f186 [⟨.int, d186_r0 x0⟩]) x0 = some [⟨.int, d186_r0 x0⟩]) : FnOk E d186_id d186_W := fn1_ok d186_hO mix d186_f d186_n d186_b (fun x0 hk => (d186_e _ x0).trans (h x0 hk))
theorem d186_ok : FnOk E d186_id d186_W := d186_ok_of fun x0 hk => by
  have h := some_of (d := (dflt .int)) hk
  unfold d186_t
  generalize hr : (d186_m x0).getD (dflt .int) = r at h
  rw [show d186_r0 x0 = r from hr];
  unfold d186_m at h
  exact (bif2 h (fun h => (bif2 h (fun h => (by have h := Option.some.inj h; subst h; exact rfl)) fun h => (by have h := Option.some.inj h; subst h; exact rfl))) fun h => (by cases h))
noncomputable def d287_m (x0 : Bool) : Option (Node) := bif x0 then (let y1 : Node := (txt1 ([116, 114, 117, 101] : List UInt8)); some ((⟨y1.kind, y1.text, y1.keys, y1.kids⟩ : Node))) else (let y2 : Node := (txt1 ([102, 97, 108, 115, 101] : List UInt8)); some ((⟨y2.kind, y2.text, y2.keys, y2.kids⟩ : Node)))
noncomputable def d287_k (x0 : Bool) : Bool := (d287_m x0).isSome
noncomputable def d287_r0 (x0 : Bool) : Node := ((d287_m x0).getD (dflt .api_Node))
noncomputable def d287_W : FnW E := fn1 (E := E) .bool .api_Node d287_k d287_r0
def d287_id : FuncId := 287
noncomputable def d287_O : Oracle E := orac [(98, ntext_W)] [] [] []
noncomputable def d287_H : Hint E := Hint.mk [] [] [] [] [] 5 []
noncomputable def d287_t (_G : Nat → ASt E → Option (List (TV E))) (x0 : Bool) : Option (List (TV E)) :=
  bif x0 then (let y1 : Node := (txt1 [116, 114, 117, 101]); some [⟨.api_Node, (⟨y1.kind, y1.text, y1.keys, y1.kids⟩ : Node)⟩]) else (let y2 : Node := (txt1 [102, 97, 108, 115, 101]); some [⟨.api_Node, (⟨y2.kind, y2.text, y2.keys, y2.kids⟩ : Node)⟩])
theorem d287_e (G : Nat → ASt E → Option (List (TV E))) (x0 : Bool) : runE d287_O d287_H G Tryz.f287 [⟨.bool, x0⟩] = d287_t G x0 := by kernel_rfl
theorem d287_f : Tryz.prog.funcs[287]? = some Tryz.f287 := by kernel_rfl
theorem d287_n : (Tryz.f287.name == "runtime.NumGoroutine") = false := by kernel_rfl
theorem d287_b : Tryz.f287.body.isNone = false := by kernel_rfl
theorem d287_hO : OracleOk E d287_O := orac_ok (.cons ntext_ok .nil) .nil .nil .nil
theorem d287_ok_of (h : ∀ (x0 : Bool), d287_k x0 = true → d287_t (Gr E Tryz.f287 [⟨.api_Node, d287_r0 x0⟩]) x0 = some [⟨.api_Node, d287_r0 x0⟩]) : FnOk E d287_id d287_W := fn1_ok d287_hO mix d287_f d287_n d287_b (fun x0 hk => (d287_e _ x0).trans (h x0 hk))
theorem d287_ok : FnOk E d287_id d287_W := d287_ok_of fun x0 hk => by
  have h := some_of (d := (dflt .api_Node)) hk
  unfold d287_t
  generalize hr : (d287_m x0).getD (dflt .api_Node) = r at h
  rw [show d287_r0 x0 = r from hr];
  unfold d287_m at h
  exact (bif2 h (fun h => (by have h := Option.some.inj h; subst h; exact rfl)) fun h => (by have h := Option.some.inj h; subst h; exact rfl))
noncomputable def d310_m0 : Nat → List UInt8 → Int → Int → Option (Bool)
  | 0, _, _, _ => none
  | f + 1, v0, v1, v2 => bif (decide (v2 < v1)) then (bif (decide ((0 : Int) ≤ v2) && decide (v2 < (v0.length : Int))) then (bif (bif (bif (bif (bif (decide ((((List.getD v0 (Int.toNat v2) 0).toNat : Nat) : Int) < (97 : Int))) then true else (decide ((122 : Int) < (((List.getD v0 (Int.toNat v2) 0).toNat : Nat) : Int)))) then (bif (decide ((((List.getD v0 (Int.toNat v2) 0).toNat : Nat) : Int) < (65 : Int))) then true else (decide ((90 : Int) < (((List.getD v0 (Int.toNat v2) 0).toNat : Nat) : Int)))) else false) then (bif (decide ((((List.getD v0 (Int.toNat v2) 0).toNat : Nat) : Int) < (48 : Int))) then true else (decide ((57 : Int) < (((List.getD v0 (Int.toNat v2) 0).toNat : Nat) : Int)))) else false) then (decide ((ixbV ([46, 95, 45, 47, 58, 61, 44, 43, 64, 37] : List UInt8) (((List.getD v0 (Int.toNat v2) 0).toNat : Nat) : Int)) < (0 : Int))) else false) then (some (false)) else (d310_m0 f v0 v1 (w64 (v2 + (1 : Int))))) else (none)) else (some ((!(v0 == ([] : List UInt8)))))
noncomputable def d310_m (x0 : List UInt8) : Option (Bool) := let y1 : Int := (x0.length : Int); d310_m0 1000000000 x0 y1 (0 : Int)
noncomputable def d310_k (x0 : List UInt8) : Bool := (d310_m x0).isSome
noncomputable def d310_r0 (x0 : List UInt8) : Bool := ((d310_m x0).getD (dflt .bool))
noncomputable def d310_W : FnW E := fn1 (E := E) .str .bool d310_k d310_r0
def d310_id : FuncId := 310
noncomputable def d310_O : Oracle E := orac [(205, sidxb_W)] [] [] []
noncomputable def d310_H : Hint E := Hint.mk [(0, [0, 6, 7])] [] [] [] [] 5 []
noncomputable def d310_C0 (v0 : List UInt8) (v1 v2 : Int) : ASt E := ASt.mk 43 [(0, .d (.str v0)), (6, .d (.int .i64 v1)), (7, .d (.int .i64 v2))] [] 0
noncomputable def d310_t (G : Nat → ASt E → Option (List (TV E))) (x0 : List UInt8) : Option (List (TV E)) :=
  let y1 : Int := (x0.length : Int); G 0 (d310_C0 x0 y1 0)
theorem d310_e (G : Nat → ASt E → Option (List (TV E))) (x0 : List UInt8) : runE d310_O d310_H G Tryz.f310 [⟨.str, x0⟩] = d310_t G x0 := by kernel_rfl
noncomputable def d310_t0 (G : Nat → ASt E → Option (List (TV E))) (v0 : List UInt8) (v1 v2 : Int) : Option (List (TV E)) :=
  bif (decide (v2 < v1)) then (bif (decide ((0 : Int) ≤ v2) && decide (v2 < (v0.length : Int))) then (bif (bif (bif (bif (bif (decide ((((List.getD v0 (Int.toNat v2) 0).toNat : Nat) : Int) < (97 : Int))) then true else (decide ((122 : Int) < (((List.getD v0 (Int.toNat v2) 0).toNat : Nat) : Int)))) then (bif (decide ((((List.getD v0 (Int.toNat v2) 0).toNat : Nat) : Int) < (65 : Int))) then true else (decide ((90 : Int) < (((List.getD v0 (Int.toNat v2) 0).toNat : Nat) : Int)))) else false) then (bif (decide ((((List.getD v0 (Int.toNat v2) 0).toNat : Nat) : Int) < (48 : Int))) then true else (decide ((57 : Int) < (((List.getD v0 (Int.toNat v2) 0).toNat : Nat) : Int)))) else false) then (decide ((ixbV [46, 95, 45, 47, 58, 61, 44, 43, 64, 37] (((List.getD v0 (Int.toNat v2) 0).toNat : Nat) : Int)) < (0 : Int))) else false) then some [⟨.bool, false⟩] else G 0 (d310_C0 v0 v1 (w64 (v2 + (1 : Int))))) else none) else some [⟨.bool, (!(v0 == ([] : List UInt8)))⟩]
theorem d310_l0 (G : Nat → ASt E → Option (List (TV E))) (v0 : List UInt8) (v1 v2 : Int) : runL d310_O d310_H G Tryz.f310 0 (d310_C0 v0 v1 v2) = d310_t0 G v0 v1 v2 := by kernel_rfl
theorem d310_f : Tryz.prog.funcs[310]? = some Tryz.f310 := by kernel_rfl
theorem d310_n : (Tryz.f310.name == "runtime.NumGoroutine") = false := by kernel_rfl
theorem d310_b : Tryz.f310.body.isNone = false := by kernel_rfl
theorem d310_hO : OracleOk E d310_O := orac_ok (.cons sidxb_ok .nil) .nil .nil .nil
theorem d310_s0 {res : List (TV E)} {v0 : List UInt8} {v1 v2 : Int} (h : d310_t0 (Gr E Tryz.f310 res) v0 v1 v2 = some res) : Ev E Tryz.f310 res 0 (d310_C0 v0 v1 v2) := Ev.step d310_hO mix ((d310_l0 _ v0 v1 v2).trans h)
theorem d310_ok_of (h : ∀ (x0 : List UInt8), d310_k x0 = true → d310_t (Gr E Tryz.f310 [⟨.bool, d310_r0 x0⟩]) x0 = some [⟨.bool, d310_r0 x0⟩]) : FnOk E d310_id d310_W := fn1_ok d310_hO mix d310_f d310_n d310_b (fun x0 hk => (d310_e _ x0).trans (h x0 hk))
theorem d310_v (f : Nat) : (∀ (v0 : List UInt8) (v1 : Int) (v2 : Int) (r : Bool), d310_m0 f v0 v1 v2 = some r → Ev E Tryz.f310 [⟨.bool, r⟩] 0 (d310_C0 v0 v1 v2)) := by
  induction f with
  | zero => exact (fun _ _ _ _ h => by cases h)
  | succ f ih =>
    exact (fun v0 v1 v2 r h => d310_s0 (by unfold d310_m0 at h; unfold d310_t0; exact (bif2 h (fun h => (bif2 h (fun h => (bif2 h (fun h => (by have h := Option.some.inj h; subst h; exact rfl)) fun h => (Gr_of (ih _ _ _ _ h)))) fun h => (by cases h))) fun h => (by have h := Option.some.inj h; subst h; exact rfl))))
theorem d310_ok : FnOk E d310_id d310_W := d310_ok_of fun x0 hk => by
  have h := some_of (d := (dflt .bool)) hk
  unfold d310_t
  generalize hr : (d310_m x0).getD (dflt .bool) = r at h
  rw [show d310_r0 x0 = r from hr];
  unfold d310_m at h
  exact (Gr_of ((d310_v _) _ _ _ _ h))
noncomputable def d214_m0 : Nat → List UInt8 → Int → Option (Int)
  | 0, _, _ => none
  | f + 1, v0, v1 => let y1 : Int := (v0.length : Int); bif ((decide ((0 : Int) ≤ v1) && decide (v1 < (v0.length : Int))) || !(decide (v1 < y1))) then (bif ((decide ((0 : Int) ≤ v1) && decide (v1 < (v0.length : Int))) || !(bif (decide (v1 < y1)) then (decide ((48 : Int) ≤ (((List.getD v0 (Int.toNat v1) 0).toNat : Nat) : Int))) else false)) then (bif (bif (bif (decide (v1 < y1)) then (decide ((48 : Int) ≤ (((List.getD v0 (Int.toNat v1) 0).toNat : Nat) : Int))) else false) then (decide ((((List.getD v0 (Int.toNat v1) 0).toNat : Nat) : Int) ≤ (57 : Int))) else false) then (d214_m0 f v0 (w64 (v1 + (1 : Int)))) else (some (v1))) else (none)) else (none)
noncomputable def d214_m (x0 : List UInt8) : Option (Int) := d214_m0 1000000000 x0 (0 : Int)
noncomputable def d214_k (x0 : List UInt8) : Bool := (d214_m x0).isSome
noncomputable def d214_r0 (x0 : List UInt8) : Int := ((d214_m x0).getD (dflt .int))
noncomputable def d214_W : FnW E := fn1 (E := E) .str .int d214_k d214_r0
def d214_id : FuncId := 214
noncomputable def d214_O : Oracle E := orac [] [] [] []
noncomputable def d214_H : Hint E := Hint.mk [(0, [0, 3])] [] [] [] [] 5 []
noncomputable def d214_C0 (v0 : List UInt8) (v1 : Int) : ASt E := ASt.mk 23 [(0, .d (.str v0)), (3, .d (.int .i64 v1))] [] 0
noncomputable def d214_t (G : Nat → ASt E → Option (List (TV E))) (x0 : List UInt8) : Option (List (TV E)) :=
  G 0 (d214_C0 x0 0)
theorem d214_e (G : Nat → ASt E → Option (List (TV E))) (x0 : List UInt8) : runE d214_O d214_H G Tryz.f214 [⟨.str, x0⟩] = d214_t G x0 := by kernel_rfl
noncomputable def d214_t0 (G : Nat → ASt E → Option (List (TV E))) (v0 : List UInt8) (v1 : Int) : Option (List (TV E)) :=
  let y1 : Int := (v0.length : Int); bif ((decide ((0 : Int) ≤ v1) && decide (v1 < (v0.length : Int))) || !(decide (v1 < y1))) then (bif ((decide ((0 : Int) ≤ v1) && decide (v1 < (v0.length : Int))) || !(bif (decide (v1 < y1)) then (decide ((48 : Int) ≤ (((List.getD v0 (Int.toNat v1) 0).toNat : Nat) : Int))) else false)) then (bif (bif (bif (decide (v1 < y1)) then (decide ((48 : Int) ≤ (((List.getD v0 (Int.toNat v1) 0).toNat : Nat) : Int))) else false) then (decide ((((List.getD v0 (Int.toNat v1) 0).toNat : Nat) : Int) ≤ (57 : Int))) else false) then G 0 (d214_C0 v0 (w64 (v1 + (1 : Int)))) else some [⟨.int, v1⟩]) else none) else none
theorem d214_l0 (G : Nat → ASt E → Option (List (TV E))) (v0 : List UInt8) (v1 : Int) : runL d214_O d214_H G Tryz.f214 0 (d214_C0 v0 v1) = d214_t0 G v0 v1 := by kernel_rfl
theorem d214_f : Tryz.prog.funcs[214]? = some Tryz.f214 := by kernel_rfl
theorem d214_n : (Tryz.f214.name == "runtime.NumGoroutine") = false := by kernel_rfl
theorem d214_b : Tryz.f214.body.isNone = false := by kernel_rfl
theorem d214_hO : OracleOk E d214_O := orac_ok .nil .nil .nil .nil
theorem d214_s0 {res : List (TV E)} {v0 : List UInt8} {v1 : Int} (h : d214_t0 (Gr E Tryz.f214 res) v0 v1 = some res) : Ev E Tryz.f214 res 0 (d214_C0 v0 v1) := Ev.step d214_hO mix ((d214_l0 _ v0 v1).trans h)
theorem d214_ok_of (h : ∀ (x0 : List UInt8), d214_k x0 = true → d214_t (Gr E Tryz.f214 [⟨.int, d214_r0 x0⟩]) x0 = some [⟨.int, d214_r0 x0⟩]) : FnOk E d214_id d214_W := fn1_ok d214_hO mix d214_f d214_n d214_b (fun x0 hk => (d214_e _ x0).trans (h x0 hk))
theorem d214_v (f : Nat) : (∀ (v0 : List UInt8) (v1 : Int) (r : Int), d214_m0 f v0 v1 = some r → Ev E Tryz.f214 [⟨.int, r⟩] 0 (d214_C0 v0 v1)) := by
  induction f with
  | zero => exact (fun _ _ _ h => by cases h)
  | succ f ih =>
    exact (fun v0 v1 r h => d214_s0 (by unfold d214_m0 at h; unfold d214_t0; exact (bif2 h (fun h => (bif2 h (fun h => (bif2 h (fun h => (Gr_of (ih _ _ _ h))) fun h => (by have h := Option.some.inj h; subst h; exact rfl))) fun h => (by cases h))) fun h => (by cases h))))
theorem d214_ok : FnOk E d214_id d214_W := d214_ok_of fun x0 hk => by
  have h := some_of (d := (dflt .int)) hk
  unfold d214_t
  generalize hr : (d214_m x0).getD (dflt .int) = r at h
  rw [show d214_r0 x0 = r from hr];
  unfold d214_m at h
  exact (Gr_of ((d214_v _) _ _ _ h))
noncomputable def d215_m (x0 : List UInt8) : Option (Int × Int × Int) := bif (x0 == ([] : List UInt8)) then (some ((0 : Int), (0 : Int), (0 : Int))) else (bif (decide ((0 : Int) ≤ (0 : Int)) && decide ((0 : Int) < (x0.length : Int))) then (bif ((((List.getD x0 (Int.toNat (0 : Int)) 0).toNat : Nat) : Int) == (104 : Int)) then (some ((1 : Int), (3600000 : Int), (1 : Int))) else (bif ((((List.getD x0 (Int.toNat (0 : Int)) 0).toNat : Nat) : Int) == (109 : Int)) then (let y1 : Int := (x0.length : Int); bif ((decide ((0 : Int) ≤ (1 : Int)) && decide ((1 : Int) < (x0.length : Int))) || !(!(decide (y1 < (2 : Int))))) then (bif (bif (decide (y1 < (2 : Int))) then true else ((((List.getD x0 (Int.toNat (1 : Int)) 0).toNat : Nat) : Int) != (115 : Int))) then (some ((2 : Int), (60000 : Int), (1 : Int))) else (some ((4 : Int), (1 : Int), (2 : Int)))) else (none)) else (bif ((((List.getD x0 (Int.toNat (0 : Int)) 0).toNat : Nat) : Int) == (115 : Int)) then (some ((3 : Int), (1000 : Int), (1 : Int))) else (some ((0 : Int), (0 : Int), (0 : Int)))))) else (none))
noncomputable def d215_k (x0 : List UInt8) : Bool := (d215_m x0).isSome
noncomputable def d215_r0 (x0 : List UInt8) : Int := ((d215_m x0).getD (dflt .int, dflt .int, dflt .int)).1
noncomputable def d215_r1 (x0 : List UInt8) : Int := ((d215_m x0).getD (dflt .int, dflt .int, dflt .int)).2.1
noncomputable def d215_r2 (x0 : List UInt8) : Int := ((d215_m x0).getD (dflt .int, dflt .int, dflt .int)).2.2
noncomputable def d215_W : FnW E := fn13 (E := E) .str .int .int .int d215_k d215_r0 d215_r1 d215_r2
def d215_id : FuncId := 215
noncomputable def d215_O : Oracle E := orac [] [] [] []
noncomputable def d215_H : Hint E := Hint.mk [] [] [] [] [] 5 []
noncomputable def d215_t (_G : Nat → ASt E → Option (List (TV E))) (x0 : List UInt8) : Option (List (TV E)) :=
  bif (x0 == ([] : List UInt8)) then some [⟨.int, (0 : Int)⟩, ⟨.int, (0 : Int)⟩, ⟨.int, (0 : Int)⟩] else (bif (decide ((0 : Int) ≤ (0 : Int)) && decide ((0 : Int) < (x0.length : Int))) then (bif ((((List.getD x0 (Int.toNat 0) 0).toNat : Nat) : Int) == (104 : Int)) then some [⟨.int, (1 : Int)⟩, ⟨.int, (3600000 : Int)⟩, ⟨.int, (1 : Int)⟩] else (bif ((((List.getD x0 (Int.toNat 0) 0).toNat : Nat) : Int) == (109 : Int)) then (let y1 : Int := (x0.length : Int); bif ((decide ((0 : Int) ≤ (1 : Int)) && decide ((1 : Int) < (x0.length : Int))) || !(!(decide (y1 < (2 : Int))))) then (bif (bif (decide (y1 < (2 : Int))) then true else ((((List.getD x0 (Int.toNat 1) 0).toNat : Nat) : Int) != (115 : Int))) then some [⟨.int, (2 : Int)⟩, ⟨.int, (60000 : Int)⟩, ⟨.int, (1 : Int)⟩] else some [⟨.int, (4 : Int)⟩, ⟨.int, (1 : Int)⟩, ⟨.int, (2 : Int)⟩]) else none) else (bif ((((List.getD x0 (Int.toNat 0) 0).toNat : Nat) : Int) == (115 : Int)) then some [⟨.int, (3 : Int)⟩, ⟨.int, (1000 : Int)⟩, ⟨.int, (1 : Int)⟩] else some [⟨.int, (0 : Int)⟩, ⟨.int, (0 : Int)⟩, ⟨.int, (0 : Int)⟩]))) else none)
theorem d215_e (G : Nat → ASt E → Option (List (TV E))) (x0 : List UInt8) : runE d215_O d215_H G Tryz.f215 [⟨.str, x0⟩] = d215_t G x0 := by kernel_rfl
theorem d215_f : Tryz.prog.funcs[215]? = some Tryz.f215 := by kernel_rfl
theorem d215_n : (Tryz.f215.name == "runtime.NumGoroutine") = false := by kernel_rfl
theorem d215_b : Tryz.f215.body.isNone = false := by kernel_rfl
theorem d215_hO : OracleOk E d215_O := orac_ok .nil .nil .nil .nil
theorem d215_ok_of (h : ∀ (x0 : List UInt8), d215_k x0 = true → d215_t (Gr E Tryz.f215 [⟨.int, d215_r0 x0⟩, ⟨.int, d215_r1 x0⟩, ⟨.int, d215_r2 x0⟩]) x0 = some [⟨.int, d215_r0 x0⟩, ⟨.int, d215_r1 x0⟩, ⟨.int, d215_r2 x0⟩]) : FnOk E d215_id d215_W := fn13_ok d215_hO mix d215_f d215_n d215_b (fun x0 hk => (d215_e _ x0).trans (h x0 hk))
theorem d215_ok : FnOk E d215_id d215_W := d215_ok_of fun x0 hk => by
  have h := some_of (d := (dflt .int, dflt .int, dflt .int)) hk
  unfold d215_t
  generalize hr : (d215_m x0).getD (dflt .int, dflt .int, dflt .int) = r at h
  rw [show d215_r0 x0 = r.1 from congrArg (fun z => z.1) hr]; rw [show d215_r1 x0 = r.2.1 from congrArg (fun z => z.2.1) hr]; rw [show d215_r2 x0 = r.2.2 from congrArg (fun z => z.2.2) hr];
  unfold d215_m at h
  exact (bif2 h (fun h => (by have h := Option.some.inj h; subst h; exact rfl)) fun h => (bif2 h (fun h => (bif2 h (fun h => (by have h := Option.some.inj h; subst h; exact rfl)) fun h => (bif2 h (fun h => (bif2 h (fun h => (bif2 h (fun h => (by have h := Option.some.inj h; subst h; exact rfl)) fun h => (by have h := Option.some.inj h; subst h; exact rfl))) fun h => (by cases h))) fun h => (bif2 h (fun h => (by have h := Option.some.inj h; subst h; exact rfl)) fun h => (by have h := Option.some.inj h; subst h; exact rfl))))) fun h => (by cases h)))
noncomputable def d184_m0 : Nat → List UInt8 → Int → Int → Bool → Int → Option (Int × Int)
  | 0, _, _, _, _, _ => none
  | f + 1, v0, v1, v2, v3, v4 => let y1 : Int := (v0.length : Int); bif (bif (decide (v4 < y1)) then true else (v2 == (0 : Int))) then (bif (decide ((0 : Int) ≤ v4) && decide (v4 ≤ (v0.length : Int)) && decide ((v0.length : Int) ≤ (v0.length : Int))) then (bif (d214_k (List.take (Int.toNat (v0.length : Int) - Int.toNat v4) (List.drop (Int.toNat v4) v0))) then (let y2 : Int := (d214_r0 (List.take (Int.toNat (v0.length : Int) - Int.toNat v4) (List.drop (Int.toNat v4) v0))); bif (decide ((0 : Int) ≤ v4) && decide (v4 ≤ (w64 (v4 + y2))) && decide ((w64 (v4 + y2)) ≤ (v0.length : Int))) then (bif (d143_k (List.take (Int.toNat (w64 (v4 + y2)) - Int.toNat v4) (List.drop (Int.toNat v4) v0)) (1099511627776 : Int)) then (let y3 : Int := (d143_r0 (List.take (Int.toNat (w64 (v4 + y2)) - Int.toNat v4) (List.drop (Int.toNat v4) v0)) (1099511627776 : Int)); let y4 : Int := (d143_r1 (List.take (Int.toNat (w64 (v4 + y2)) - Int.toNat v4) (List.drop (Int.toNat v4) v0)) (1099511627776 : Int)); bif (decide ((0 : Int) ≤ (w64 (v4 + y2))) && decide ((w64 (v4 + y2)) ≤ (v0.length : Int)) && decide ((v0.length : Int) ≤ (v0.length : Int))) then (bif (d215_k (List.take (Int.toNat (v0.length : Int) - Int.toNat (w64 (v4 + y2))) (List.drop (Int.toNat (w64 (v4 + y2))) v0))) then (let y5 : Int := (d215_r0 (List.take (Int.toNat (v0.length : Int) - Int.toNat (w64 (v4 + y2))) (List.drop (Int.toNat (w64 (v4 + y2))) v0))); let y6 : Int := (d215_r1 (List.take (Int.toNat (v0.length : Int) - Int.toNat (w64 (v4 + y2))) (List.drop (Int.toNat (w64 (v4 + y2))) v0))); let y7 : Int := (d215_r2 (List.take (Int.toNat (v0.length : Int) - Int.toNat (w64 (v4 + y2))) (List.drop (Int.toNat (w64 (v4 + y2))) v0))); bif (bif (bif (y4 == (3 : Int)) then true else (y7 == (0 : Int))) then true else (decide (y5 ≤ v2))) then (some ((0 : Int), (3 : Int))) else (bif (bif (bif (y4 == (0 : Int)) then (y3 == (0 : Int)) else false) then (bif (decide ((0 : Int) < v2)) then true else (decide ((w64 ((w64 (v4 + y2)) + y7)) < (v0.length : Int)))) else false) then (some ((0 : Int), (3 : Int))) else (bif ((!(y6 == (0 : Int))) || !(!(bif v3 then true else (y4 != (0 : Int))))) then (bif (!(bif (bif v3 then true else (y4 != (0 : Int))) then true else (decide ((w64 (Int.tdiv (w64 ((1099511627776 : Int) - v1)) y6)) < y3)))) then (d184_m0 f v0 (w64 (v1 + (w64 (y3 * y6)))) y5 (bif (bif v3 then true else (y4 != (0 : Int))) then true else (decide ((w64 (Int.tdiv (w64 ((1099511627776 : Int) - v1)) y6)) < y3))) (w64 ((w64 (v4 + y2)) + y7))) else (d184_m0 f v0 v1 y5 (bif (bif v3 then true else (y4 != (0 : Int))) then true else (decide ((w64 (Int.tdiv (w64 ((1099511627776 : Int) - v1)) y6)) < y3))) (w64 ((w64 (v4 + y2)) + y7)))) else (none)))) else (none)) else (none)) else (none)) else (none)) else (none)) else (none)) else (bif v3 then (some ((0 : Int), (9 : Int))) else (some (v1, (0 : Int))))
noncomputable def d184_m (x0 : List UInt8) : Option (Int × Int) := d184_m0 1000000000 x0 (0 : Int) (0 : Int) false (0 : Int)
noncomputable def d184_k (x0 : List UInt8) : Bool := (d184_m x0).isSome
noncomputable def d184_r0 (x0 : List UInt8) : Int := ((d184_m x0).getD (dflt .int, dflt .api_Errno)).1
noncomputable def d184_r1 (x0 : List UInt8) : Int := ((d184_m x0).getD (dflt .int, dflt .api_Errno)).2
noncomputable def d184_W : FnW E := fn12 (E := E) .str .int .api_Errno d184_k d184_r0 d184_r1
def d184_id : FuncId := 184
noncomputable def d184_O : Oracle E := orac [(143, d143_W), (214, d214_W), (215, d215_W)] [] [] []
noncomputable def d184_H : Hint E := Hint.mk [(0, [0, 4, 5, 6, 7])] [] [] [] [] 5 []
noncomputable def d184_C0 (v0 : List UInt8) (v1 v2 : Int) (v3 : Bool) (v4 : Int) : ASt E := ASt.mk 105 [(0, .d (.str v0)), (4, .d (.int .i64 v1)), (5, .d (.int .i64 v2)), (6, .d (.bool v3)), (7, .d (.int .i64 v4))] [] 0
noncomputable def d184_t (G : Nat → ASt E → Option (List (TV E))) (x0 : List UInt8) : Option (List (TV E)) :=
  G 0 (d184_C0 x0 0 0 false 0)
theorem d184_e (G : Nat → ASt E → Option (List (TV E))) (x0 : List UInt8) : runE d184_O d184_H G Tryz.f184 [⟨.str, x0⟩] = d184_t G x0 := by kernel_rfl
noncomputable def d184_t0 (G : Nat → ASt E → Option (List (TV E))) (v0 : List UInt8) (v1 v2 : Int) (v3 : Bool) (v4 : Int) : Option (List (TV E)) :=
  let y1 : Int := (v0.length : Int); bif (bif (decide (v4 < y1)) then true else (v2 == (0 : Int))) then (bif (decide ((0 : Int) ≤ v4) && decide (v4 ≤ (v0.length : Int)) && decide ((v0.length : Int) ≤ (v0.length : Int))) then (bif (d214_k (List.take (Int.toNat (v0.length : Int) - Int.toNat v4) (List.drop (Int.toNat v4) v0))) then (let y2 : Int := (d214_r0 (List.take (Int.toNat (v0.length : Int) - Int.toNat v4) (List.drop (Int.toNat v4) v0))); bif (decide ((0 : Int) ≤ v4) && decide (v4 ≤ (w64 (v4 + y2))) && decide ((w64 (v4 + y2)) ≤ (v0.length : Int))) then (bif (d143_k (List.take (Int.toNat (w64 (v4 + y2)) - Int.toNat v4) (List.drop (Int.toNat v4) v0)) 1099511627776) then (let y3 : Int := (d143_r0 (List.take (Int.toNat (w64 (v4 + y2)) - Int.toNat v4) (List.drop (Int.toNat v4) v0)) 1099511627776); let y4 : Int := (d143_r1 (List.take (Int.toNat (w64 (v4 + y2)) - Int.toNat v4) (List.drop (Int.toNat v4) v0)) 1099511627776); bif (decide ((0 : Int) ≤ (w64 (v4 + y2))) && decide ((w64 (v4 + y2)) ≤ (v0.length : Int)) && decide ((v0.length : Int) ≤ (v0.length : Int))) then (bif (d215_k (List.take (Int.toNat (v0.length : Int) - Int.toNat (w64 (v4 + y2))) (List.drop (Int.toNat (w64 (v4 + y2))) v0))) then (let y5 : Int := (d215_r0 (List.take (Int.toNat (v0.length : Int) - Int.toNat (w64 (v4 + y2))) (List.drop (Int.toNat (w64 (v4 + y2))) v0))); let y6 : Int := (d215_r1 (List.take (Int.toNat (v0.length : Int) - Int.toNat (w64 (v4 + y2))) (List.drop (Int.toNat (w64 (v4 + y2))) v0))); let y7 : Int := (d215_r2 (List.take (Int.toNat (v0.length : Int) - Int.toNat (w64 (v4 + y2))) (List.drop (Int.toNat (w64 (v4 + y2))) v0))); bif (bif (bif (y4 == (3 : Int)) then true else (y7 == (0 : Int))) then true else (decide (y5 ≤ v2))) then some [⟨.int, (0 : Int)⟩, ⟨.api_Errno, (3 : Int)⟩] else (bif (bif (bif (y4 == (0 : Int)) then (y3 == (0 : Int)) else false) then (bif (decide ((0 : Int) < v2)) then true else (decide ((w64 ((w64 (v4 + y2)) + y7)) < (v0.length : Int)))) else false) then some [⟨.int, (0 : Int)⟩, ⟨.api_Errno, (3 : Int)⟩] else (bif ((!(y6 == (0 : Int))) || !(!(bif v3 then true else (y4 != (0 : Int))))) then (bif (!(bif (bif v3 then true else (y4 != (0 : Int))) then true else (decide ((w64 (Int.tdiv (w64 ((1099511627776 : Int) - v1)) y6)) < y3)))) then G 0 (d184_C0 v0 (w64 (v1 + (w64 (y3 * y6)))) y5 (bif (bif v3 then true else (y4 != (0 : Int))) then true else (decide ((w64 (Int.tdiv (w64 ((1099511627776 : Int) - v1)) y6)) < y3))) (w64 ((w64 (v4 + y2)) + y7))) else G 0 (d184_C0 v0 v1 y5 (bif (bif v3 then true else (y4 != (0 : Int))) then true else (decide ((w64 (Int.tdiv (w64 ((1099511627776 : Int) - v1)) y6)) < y3))) (w64 ((w64 (v4 + y2)) + y7)))) else none))) else none) else none) else none) else none) else none) else none) else (bif v3 then some [⟨.int, (0 : Int)⟩, ⟨.api_Errno, (9 : Int)⟩] else some [⟨.int, v1⟩, ⟨.api_Errno, (0 : Int)⟩])
theorem d184_l0 (G : Nat → ASt E → Option (List (TV E))) (v0 : List UInt8) (v1 v2 : Int) (v3 : Bool) (v4 : Int) : runL d184_O d184_H G Tryz.f184 0 (d184_C0 v0 v1 v2 v3 v4) = d184_t0 G v0 v1 v2 v3 v4 := by kernel_rfl
theorem d184_f : Tryz.prog.funcs[184]? = some Tryz.f184 := by kernel_rfl
theorem d184_n : (Tryz.f184.name == "runtime.NumGoroutine") = false := by kernel_rfl
theorem d184_b : Tryz.f184.body.isNone = false := by kernel_rfl
theorem d184_hO : OracleOk E d184_O := orac_ok (.cons d143_ok (.cons d214_ok (.cons d215_ok .nil))) .nil .nil .nil
theorem d184_s0 {res : List (TV E)} {v0 : List UInt8} {v1 v2 : Int} {v3 : Bool} {v4 : Int} (h : d184_t0 (Gr E Tryz.f184 res) v0 v1 v2 v3 v4 = some res) : Ev E Tryz.f184 res 0 (d184_C0 v0 v1 v2 v3 v4) := Ev.step d184_hO mix ((d184_l0 _ v0 v1 v2 v3 v4).trans h)
theorem d184_ok_of (h : ∀ (x0 : List UInt8), d184_k x0 = true → d184_t (Gr E Tryz.f184 [⟨.int, d184_r0 x0⟩, ⟨.api_Errno, d184_r1 x0⟩]) x0 = some [⟨.int, d184_r0 x0⟩, ⟨.api_Errno, d184_r1 x0⟩]) : FnOk E d184_id d184_W := fn12_ok d184_hO mix d184_f d184_n d184_b (fun x0 hk => (d184_e _ x0).trans (h x0 hk))
theorem d184_v (f : Nat) : (∀ (v0 : List UInt8) (v1 : Int) (v2 : Int) (v3 : Bool) (v4 : Int) (r : Int × Int), d184_m0 f v0 v1 v2 v3 v4 = some r → Ev E Tryz.f184 [⟨.int, r.1⟩, ⟨.api_Errno, r.2⟩] 0 (d184_C0 v0 v1 v2 v3 v4)) := by
  induction f with
  | zero => exact (fun _ _ _ _ _ _ h => by cases h)
  | succ f ih =>
    exact (fun v0 v1 v2 v3 v4 r h => d184_s0 (by unfold d184_m0 at h; unfold d184_t0; exact (bif2 h (fun h => (bif2 h (fun h => (bif2 h (fun h => (bif2 h (fun h => (bif2 h (fun h => (bif2 h (fun h => (bif2 h (fun h => (bif2 h (fun h => (by have h := Option.some.inj h; subst h; exact rfl)) fun h => (bif2 h (fun h => (by have h := Option.some.inj h; subst h; exact rfl)) fun h => (bif2 h (fun h => (bif2 h (fun h => (Gr_of (ih _ _ _ _ _ _ h))) fun h => (Gr_of (ih _ _ _ _ _ _ h)))) fun h => (by cases h))))) fun h => (by cases h))) fun h => (by cases h))) fun h => (by cases h))) fun h => (by cases h))) fun h => (by cases h))) fun h => (by cases h))) fun h => (bif2 h (fun h => (by have h := Option.some.inj h; subst h; exact rfl)) fun h => (by have h := Option.some.inj h; subst h; exact rfl)))))
theorem d184_ok : FnOk E d184_id d184_W := d184_ok_of fun x0 hk => by
  have h := some_of (d := (dflt .int, dflt .api_Errno)) hk
  unfold d184_t
  generalize hr : (d184_m x0).getD (dflt .int, dflt .api_Errno) = r at h
  rw [show d184_r0 x0 = r.1 from congrArg (fun z => z.1) hr]; rw [show d184_r1 x0 = r.2 from congrArg (fun z => z.2) hr];
  unfold d184_m at h
  exact (Gr_of ((d184_v _) _ _ _ _ _ _ h))
noncomputable def d305_m (x0 : List UInt8) (x1 : List UInt8) : Option ((List UInt8) × Bool) := bif (d210_k x0 x1) then (let y1 : Bool := (d210_r0 x0 x1); bif (!y1) then (some (x0, false)) else (let y2 : Int := (x1.length : Int); bif (decide ((0 : Int) ≤ y2) && decide (y2 ≤ (x0.length : Int)) && decide ((x0.length : Int) ≤ (x0.length : Int))) then (some ((List.take (Int.toNat (x0.length : Int) - Int.toNat y2) (List.drop (Int.toNat y2) x0)), true)) else (none))) else (none)
noncomputable def d305_k (x0 : List UInt8) (x1 : List UInt8) : Bool := (d305_m x0 x1).isSome
noncomputable def d305_r0 (x0 : List UInt8) (x1 : List UInt8) : List UInt8 := ((d305_m x0 x1).getD (dflt .str, dflt .bool)).1
noncomputable def d305_r1 (x0 : List UInt8) (x1 : List UInt8) : Bool := ((d305_m x0 x1).getD (dflt .str, dflt .bool)).2
noncomputable def d305_W : FnW E := fn22 (E := E) .str .str .str .bool d305_k d305_r0 d305_r1
def d305_id : FuncId := 305
noncomputable def d305_O : Oracle E := orac [(210, d210_W)] [] [] []
noncomputable def d305_H : Hint E := Hint.mk [] [] [] [] [] 5 []
noncomputable def d305_t (_G : Nat → ASt E → Option (List (TV E))) (x0 x1 : List UInt8) : Option (List (TV E)) :=
  bif (d210_k x0 x1) then (let y1 : Bool := (d210_r0 x0 x1); bif (!y1) then some [⟨.str, x0⟩, ⟨.bool, false⟩] else (let y2 : Int := (x1.length : Int); bif (decide ((0 : Int) ≤ y2) && decide (y2 ≤ (x0.length : Int)) && decide ((x0.length : Int) ≤ (x0.length : Int))) then some [⟨.str, (List.take (Int.toNat (x0.length : Int) - Int.toNat y2) (List.drop (Int.toNat y2) x0))⟩, ⟨.bool, true⟩] else none)) else none
theorem d305_e (G : Nat → ASt E → Option (List (TV E))) (x0 : List UInt8) (x1 : List UInt8) : runE d305_O d305_H G Tryz.f305 [⟨.str, x0⟩, ⟨.str, x1⟩] = d305_t G x0 x1 := by kernel_rfl
theorem d305_f : Tryz.prog.funcs[305]? = some Tryz.f305 := by kernel_rfl
theorem d305_n : (Tryz.f305.name == "runtime.NumGoroutine") = false := by kernel_rfl
theorem d305_b : Tryz.f305.body.isNone = false := by kernel_rfl
theorem d305_hO : OracleOk E d305_O := orac_ok (.cons d210_ok .nil) .nil .nil .nil
theorem d305_ok_of (h : ∀ (x0 : List UInt8) (x1 : List UInt8), d305_k x0 x1 = true → d305_t (Gr E Tryz.f305 [⟨.str, d305_r0 x0 x1⟩, ⟨.bool, d305_r1 x0 x1⟩]) x0 x1 = some [⟨.str, d305_r0 x0 x1⟩, ⟨.bool, d305_r1 x0 x1⟩]) : FnOk E d305_id d305_W := fn22_ok d305_hO mix d305_f d305_n d305_b (fun x0 x1 hk => (d305_e _ x0 x1).trans (h x0 x1 hk))
theorem d305_ok : FnOk E d305_id d305_W := d305_ok_of fun x0 x1 hk => by
  have h := some_of (d := (dflt .str, dflt .bool)) hk
  unfold d305_t
  generalize hr : (d305_m x0 x1).getD (dflt .str, dflt .bool) = r at h
  rw [show d305_r0 x0 x1 = r.1 from congrArg (fun z => z.1) hr]; rw [show d305_r1 x0 x1 = r.2 from congrArg (fun z => z.2) hr];
  unfold d305_m at h
  exact (bif2 h (fun h => (bif2 h (fun h => (by have h := Option.some.inj h; subst h; exact rfl)) fun h => (bif2 h (fun h => (by have h := Option.some.inj h; subst h; exact rfl)) fun h => (by cases h)))) fun h => (by cases h))
noncomputable def d289_m (x0 : List UInt8) (x1 : List UInt8) : Option ((List UInt8) × Bool) := bif (d305_k x0 x1) then (let y1 : List UInt8 := (d305_r0 x0 x1); let y2 : Bool := (d305_r1 x0 x1); some (y1, y2)) else (none)
noncomputable def d289_k (x0 : List UInt8) (x1 : List UInt8) : Bool := (d289_m x0 x1).isSome
noncomputable def d289_r0 (x0 : List UInt8) (x1 : List UInt8) : List UInt8 := ((d289_m x0 x1).getD (dflt .str, dflt .bool)).1
noncomputable def d289_r1 (x0 : List UInt8) (x1 : List UInt8) : Bool := ((d289_m x0 x1).getD (dflt .str, dflt .bool)).2
noncomputable def d289_W : FnW E := fn22 (E := E) .str .str .str .bool d289_k d289_r0 d289_r1
def d289_id : FuncId := 289
noncomputable def d289_O : Oracle E := orac [(305, d305_W)] [] [] []
noncomputable def d289_H : Hint E := Hint.mk [] [] [] [] [] 5 []
noncomputable def d289_t (_G : Nat → ASt E → Option (List (TV E))) (x0 x1 : List UInt8) : Option (List (TV E)) :=
  bif (d305_k x0 x1) then (let y1 : List UInt8 := (d305_r0 x0 x1); let y2 : Bool := (d305_r1 x0 x1); some [⟨.str, y1⟩, ⟨.bool, y2⟩]) else none
theorem d289_e (G : Nat → ASt E → Option (List (TV E))) (x0 : List UInt8) (x1 : List UInt8) : runE d289_O d289_H G Tryz.f289 [⟨.str, x0⟩, ⟨.str, x1⟩] = d289_t G x0 x1 := by kernel_rfl
theorem d289_f : Tryz.prog.funcs[289]? = some Tryz.f289 := by kernel_rfl
theorem d289_n : (Tryz.f289.name == "runtime.NumGoroutine") = false := by kernel_rfl
theorem d289_b : Tryz.f289.body.isNone = false := by kernel_rfl
theorem d289_hO : OracleOk E d289_O := orac_ok (.cons d305_ok .nil) .nil .nil .nil
theorem d289_ok_of (h : ∀ (x0 : List UInt8) (x1 : List UInt8), d289_k x0 x1 = true → d289_t (Gr E Tryz.f289 [⟨.str, d289_r0 x0 x1⟩, ⟨.bool, d289_r1 x0 x1⟩]) x0 x1 = some [⟨.str, d289_r0 x0 x1⟩, ⟨.bool, d289_r1 x0 x1⟩]) : FnOk E d289_id d289_W := fn22_ok d289_hO mix d289_f d289_n d289_b (fun x0 x1 hk => (d289_e _ x0 x1).trans (h x0 x1 hk))
theorem d289_ok : FnOk E d289_id d289_W := d289_ok_of fun x0 x1 hk => by
  have h := some_of (d := (dflt .str, dflt .bool)) hk
  unfold d289_t
  generalize hr : (d289_m x0 x1).getD (dflt .str, dflt .bool) = r at h
  rw [show d289_r0 x0 x1 = r.1 from congrArg (fun z => z.1) hr]; rw [show d289_r1 x0 x1 = r.2 from congrArg (fun z => z.2) hr];
  unfold d289_m at h
  exact (bif2 h (fun h => (by have h := Option.some.inj h; subst h; exact rfl)) fun h => (by cases h))
noncomputable def d288_m (x0 : List UInt8) : Option (Bool) := bif (d289_k x0 ([111, 110, 45, 102, 97, 105, 108, 117, 114, 101, 58] : List UInt8)) then (let y1 : List UInt8 := (d289_r0 x0 ([111, 110, 45, 102, 97, 105, 108, 117, 114, 101, 58] : List UInt8)); let y2 : Bool := (d289_r1 x0 ([111, 110, 45, 102, 97, 105, 108, 117, 114, 101, 58] : List UInt8)); bif y2 then (bif (d143_k y1 (10 : Int)) then (let y3 : Int := (d143_r0 y1 (10 : Int)); let y4 : Int := (d143_r1 y1 (10 : Int)); some ((bif (y4 == (0 : Int)) then (decide ((0 : Int) < y3)) else false))) else (none)) else (some ((bif (bif (bif (x0 == ([110, 111] : List UInt8)) then true else (x0 == ([97, 108, 119, 97, 121, 115] : List UInt8))) then true else (x0 == ([117, 110, 108, 101, 115, 115, 45, 115, 116, 111, 112, 112, 101, 100] : List UInt8))) then true else (x0 == ([111, 110, 45, 102, 97, 105, 108, 117, 114, 101] : List UInt8)))))) else (none)
noncomputable def d288_k (x0 : List UInt8) : Bool := (d288_m x0).isSome
noncomputable def d288_r0 (x0 : List UInt8) : Bool := ((d288_m x0).getD (dflt .bool))
noncomputable def d288_W : FnW E := fn1 (E := E) .str .bool d288_k d288_r0
def d288_id : FuncId := 288
noncomputable def d288_O : Oracle E := orac [(143, d143_W), (289, d289_W)] [] [] []
noncomputable def d288_H : Hint E := Hint.mk [] [] [] [] [] 5 []
noncomputable def d288_t (_G : Nat → ASt E → Option (List (TV E))) (x0 : List UInt8) : Option (List (TV E)) :=
  bif (d289_k x0 [111, 110, 45, 102, 97, 105, 108, 117, 114, 101, 58]) then (let y1 : List UInt8 := (d289_r0 x0 [111, 110, 45, 102, 97, 105, 108, 117, 114, 101, 58]); let y2 : Bool := (d289_r1 x0 [111, 110, 45, 102, 97, 105, 108, 117, 114, 101, 58]); bif y2 then (bif (d143_k y1 10) then (let y3 : Int := (d143_r0 y1 10); let y4 : Int := (d143_r1 y1 10); some [⟨.bool, (bif (y4 == (0 : Int)) then (decide ((0 : Int) < y3)) else false)⟩]) else none) else some [⟨.bool, (bif (bif (bif (x0 == ([110, 111] : List UInt8)) then true else (x0 == ([97, 108, 119, 97, 121, 115] : List UInt8))) then true else (x0 == ([117, 110, 108, 101, 115, 115, 45, 115, 116, 111, 112, 112, 101, 100] : List UInt8))) then true else (x0 == ([111, 110, 45, 102, 97, 105, 108, 117, 114, 101] : List UInt8)))⟩]) else none
theorem d288_e (G : Nat → ASt E → Option (List (TV E))) (x0 : List UInt8) : runE d288_O d288_H G Tryz.f288 [⟨.str, x0⟩] = d288_t G x0 := by kernel_rfl
theorem d288_f : Tryz.prog.funcs[288]? = some Tryz.f288 := by kernel_rfl
theorem d288_n : (Tryz.f288.name == "runtime.NumGoroutine") = false := by kernel_rfl
theorem d288_b : Tryz.f288.body.isNone = false := by kernel_rfl
theorem d288_hO : OracleOk E d288_O := orac_ok (.cons d143_ok (.cons d289_ok .nil)) .nil .nil .nil
theorem d288_ok_of (h : ∀ (x0 : List UInt8), d288_k x0 = true → d288_t (Gr E Tryz.f288 [⟨.bool, d288_r0 x0⟩]) x0 = some [⟨.bool, d288_r0 x0⟩]) : FnOk E d288_id d288_W := fn1_ok d288_hO mix d288_f d288_n d288_b (fun x0 hk => (d288_e _ x0).trans (h x0 hk))
theorem d288_ok : FnOk E d288_id d288_W := d288_ok_of fun x0 hk => by
  have h := some_of (d := (dflt .bool)) hk
  unfold d288_t
  generalize hr : (d288_m x0).getD (dflt .bool) = r at h
  rw [show d288_r0 x0 = r from hr];
  unfold d288_m at h
  exact (bif2 h (fun h => (bif2 h (fun h => (bif2 h (fun h => (by have h := Option.some.inj h; subst h; exact rfl)) fun h => (by cases h))) fun h => (by have h := Option.some.inj h; subst h; exact rfl))) fun h => (by cases h))
noncomputable def d247_m (x0 : Node) : Option (Node × Int) := bif ((d288_k x0.text) || !(!(x0.kind != (1 : Int)))) then (bif (bif (x0.kind != (1 : Int)) then true else (!(d288_r0 x0.text))) then (some ((⟨(0 : Int), ([] : List UInt8), ([] : List (List UInt8)), ([] : List Node)⟩ : Node), (10 : Int))) else (some ((⟨x0.kind, x0.text, x0.keys, x0.kids⟩ : Node), (0 : Int)))) else (none)
noncomputable def d247_k (x0 : Node) : Bool := (d247_m x0).isSome
noncomputable def d247_r0 (x0 : Node) : Node := ((d247_m x0).getD (dflt .api_Node, dflt .api_Errno)).1
noncomputable def d247_r1 (x0 : Node) : Int := ((d247_m x0).getD (dflt .api_Node, dflt .api_Errno)).2
noncomputable def d247_W : FnW E := fn12 (E := E) .api_Node .api_Node .api_Errno d247_k d247_r0 d247_r1
def d247_id : FuncId := 247
noncomputable def d247_O : Oracle E := withI (orac [(288, d288_W)] [] [] []) [(213, Tryz.f213), (272, Tryz.f272)]
noncomputable def d247_H : Hint E := Hint.mk [] [] [] [] [] 5 []
noncomputable def d247_t (_G : Nat → ASt E → Option (List (TV E))) (x0 : Node) : Option (List (TV E)) :=
  bif ((d288_k x0.text) || !(!(x0.kind != (1 : Int)))) then (bif (bif (x0.kind != (1 : Int)) then true else (!(d288_r0 x0.text))) then some [⟨.api_Node, (⟨0, [], [], []⟩ : Node)⟩, ⟨.api_Errno, (10 : Int)⟩] else some [⟨.api_Node, (⟨x0.kind, x0.text, x0.keys, x0.kids⟩ : Node)⟩, ⟨.api_Errno, (0 : Int)⟩]) else none
theorem d247_e (G : Nat → ASt E → Option (List (TV E))) (x0 : Node) : runE d247_O d247_H G Tryz.f247 [⟨.api_Node, x0⟩] = d247_t G x0 := by kernel_rfl
theorem d247_f : Tryz.prog.funcs[247]? = some Tryz.f247 := by kernel_rfl
theorem d247_n : (Tryz.f247.name == "runtime.NumGoroutine") = false := by kernel_rfl
theorem d247_b : Tryz.f247.body.isNone = false := by kernel_rfl
theorem d247_hO : OracleOk E d247_O := withI_ok (orac_ok (.cons d288_ok .nil) .nil .nil .nil) mix (.cons (f := 213) (fn := Tryz.f213) (by kernel_rfl) (by kernel_rfl) (by kernel_rfl) (.cons (f := 272) (fn := Tryz.f272) (by kernel_rfl) (by kernel_rfl) (by kernel_rfl) .nil))
theorem d247_ok_of (h : ∀ (x0 : Node), d247_k x0 = true → d247_t (Gr E Tryz.f247 [⟨.api_Node, d247_r0 x0⟩, ⟨.api_Errno, d247_r1 x0⟩]) x0 = some [⟨.api_Node, d247_r0 x0⟩, ⟨.api_Errno, d247_r1 x0⟩]) : FnOk E d247_id d247_W := fn12_ok d247_hO mix d247_f d247_n d247_b (fun x0 hk => (d247_e _ x0).trans (h x0 hk))
theorem d247_ok : FnOk E d247_id d247_W := d247_ok_of fun x0 hk => by
  have h := some_of (d := (dflt .api_Node, dflt .api_Errno)) hk
  unfold d247_t
  generalize hr : (d247_m x0).getD (dflt .api_Node, dflt .api_Errno) = r at h
  rw [show d247_r0 x0 = r.1 from congrArg (fun z => z.1) hr]; rw [show d247_r1 x0 = r.2 from congrArg (fun z => z.2) hr];
  unfold d247_m at h
  exact (bif2 h (fun h => (bif2 h (fun h => (by have h := Option.some.inj h; subst h; exact rfl)) fun h => (by have h := Option.some.inj h; subst h; exact rfl))) fun h => (by cases h))
noncomputable def d290_m (x0 : List UInt8) : Option (Bool) := bif (d143_k x0 (8 : Int)) then (let y1 : Int := (d143_r0 x0 (8 : Int)); let y2 : Int := (d143_r1 x0 (8 : Int)); some ((y2 == (0 : Int)))) else (none)
noncomputable def d290_k (x0 : List UInt8) : Bool := (d290_m x0).isSome
noncomputable def d290_r0 (x0 : List UInt8) : Bool := ((d290_m x0).getD (dflt .bool))
noncomputable def d290_W : FnW E := fn1 (E := E) .str .bool d290_k d290_r0
def d290_id : FuncId := 290
noncomputable def d290_O : Oracle E := orac [(143, d143_W)] [] [] []
noncomputable def d290_H : Hint E := Hint.mk [] [] [] [] [] 5 []
noncomputable def d290_t (_G : Nat → ASt E → Option (List (TV E))) (x0 : List UInt8) : Option (List (TV E)) :=
  bif (d143_k x0 8) then (let y1 : Int := (d143_r0 x0 8); let y2 : Int := (d143_r1 x0 8); some [⟨.bool, (y2 == (0 : Int))⟩]) else none
theorem d290_e (G : Nat → ASt E → Option (List (TV E))) (x0 : List UInt8) : runE d290_O d290_H G Tryz.f290 [⟨.str, x0⟩] = d290_t G x0 := by kernel_rfl
theorem d290_f : Tryz.prog.funcs[290]? = some Tryz.f290 := by kernel_rfl
theorem d290_n : (Tryz.f290.name == "runtime.NumGoroutine") = false := by kernel_rfl
theorem d290_b : Tryz.f290.body.isNone = false := by kernel_rfl
theorem d290_hO : OracleOk E d290_O := orac_ok (.cons d143_ok .nil) .nil .nil .nil
theorem d290_ok_of (h : ∀ (x0 : List UInt8), d290_k x0 = true → d290_t (Gr E Tryz.f290 [⟨.bool, d290_r0 x0⟩]) x0 = some [⟨.bool, d290_r0 x0⟩]) : FnOk E d290_id d290_W := fn1_ok d290_hO mix d290_f d290_n d290_b (fun x0 hk => (d290_e _ x0).trans (h x0 hk))
theorem d290_ok : FnOk E d290_id d290_W := d290_ok_of fun x0 hk => by
  have h := some_of (d := (dflt .bool)) hk
  unfold d290_t
  generalize hr : (d290_m x0).getD (dflt .bool) = r at h
  rw [show d290_r0 x0 = r from hr];
  unfold d290_m at h
  exact (bif2 h (fun h => (by have h := Option.some.inj h; subst h; exact rfl)) fun h => (by cases h))
noncomputable def d248_m (x0 : Node) : Option (Node × Int) := bif ((d290_k x0.text) || !(!(x0.kind != (1 : Int)))) then (bif (bif (x0.kind != (1 : Int)) then true else (!(d290_r0 x0.text))) then (some ((⟨(0 : Int), ([] : List UInt8), ([] : List (List UInt8)), ([] : List Node)⟩ : Node), (10 : Int))) else (some ((⟨x0.kind, x0.text, x0.keys, x0.kids⟩ : Node), (0 : Int)))) else (none)
noncomputable def d248_k (x0 : Node) : Bool := (d248_m x0).isSome
noncomputable def d248_r0 (x0 : Node) : Node := ((d248_m x0).getD (dflt .api_Node, dflt .api_Errno)).1
noncomputable def d248_r1 (x0 : Node) : Int := ((d248_m x0).getD (dflt .api_Node, dflt .api_Errno)).2
noncomputable def d248_W : FnW E := fn12 (E := E) .api_Node .api_Node .api_Errno d248_k d248_r0 d248_r1
def d248_id : FuncId := 248
noncomputable def d248_O : Oracle E := withI (orac [(290, d290_W)] [] [] []) [(213, Tryz.f213), (272, Tryz.f272)]
noncomputable def d248_H : Hint E := Hint.mk [] [] [] [] [] 5 []
noncomputable def d248_t (_G : Nat → ASt E → Option (List (TV E))) (x0 : Node) : Option (List (TV E)) :=
  bif ((d290_k x0.text) || !(!(x0.kind != (1 : Int)))) then (bif (bif (x0.kind != (1 : Int)) then true else (!(d290_r0 x0.text))) then some [⟨.api_Node, (⟨0, [], [], []⟩ : Node)⟩, ⟨.api_Errno, (10 : Int)⟩] else some [⟨.api_Node, (⟨x0.kind, x0.text, x0.keys, x0.kids⟩ : Node)⟩, ⟨.api_Errno, (0 : Int)⟩]) else none
theorem d248_e (G : Nat → ASt E → Option (List (TV E))) (x0 : Node) : runE d248_O d248_H G Tryz.f248 [⟨.api_Node, x0⟩] = d248_t G x0 := by kernel_rfl
theorem d248_f : Tryz.prog.funcs[248]? = some Tryz.f248 := by kernel_rfl
theorem d248_n : (Tryz.f248.name == "runtime.NumGoroutine") = false := by kernel_rfl
theorem d248_b : Tryz.f248.body.isNone = false := by kernel_rfl
theorem d248_hO : OracleOk E d248_O := withI_ok (orac_ok (.cons d290_ok .nil) .nil .nil .nil) mix (.cons (f := 213) (fn := Tryz.f213) (by kernel_rfl) (by kernel_rfl) (by kernel_rfl) (.cons (f := 272) (fn := Tryz.f272) (by kernel_rfl) (by kernel_rfl) (by kernel_rfl) .nil))
theorem d248_ok_of (h : ∀ (x0 : Node), d248_k x0 = true → d248_t (Gr E Tryz.f248 [⟨.api_Node, d248_r0 x0⟩, ⟨.api_Errno, d248_r1 x0⟩]) x0 = some [⟨.api_Node, d248_r0 x0⟩, ⟨.api_Errno, d248_r1 x0⟩]) : FnOk E d248_id d248_W := fn12_ok d248_hO mix d248_f d248_n d248_b (fun x0 hk => (d248_e _ x0).trans (h x0 hk))
theorem d248_ok : FnOk E d248_id d248_W := d248_ok_of fun x0 hk => by
  have h := some_of (d := (dflt .api_Node, dflt .api_Errno)) hk
  unfold d248_t
  generalize hr : (d248_m x0).getD (dflt .api_Node, dflt .api_Errno) = r at h
  rw [show d248_r0 x0 = r.1 from congrArg (fun z => z.1) hr]; rw [show d248_r1 x0 = r.2 from congrArg (fun z => z.2) hr];
  unfold d248_m at h
  exact (bif2 h (fun h => (bif2 h (fun h => (by have h := Option.some.inj h; subst h; exact rfl)) fun h => (by have h := Option.some.inj h; subst h; exact rfl))) fun h => (by cases h))
noncomputable def d193_m0 : Nat → List UInt8 → Int → Int → Option ((List UInt8) × (List UInt8) × Bool)
  | 0, _, _, _ => none
  | f + 1, v0, v1, v2 => bif (decide (v2 < v1)) then (bif (decide ((0 : Int) ≤ v2) && decide (v2 < (v0.length : Int))) then (bif ((((List.getD v0 (Int.toNat v2) 0).toNat : Nat) : Int) == (46 : Int)) then (bif (decide ((0 : Int) ≤ (0 : Int)) && decide ((0 : Int) ≤ v2) && decide (v2 ≤ (v0.length : Int))) then (bif (decide ((0 : Int) ≤ (w64 (v2 + (1 : Int)))) && decide ((w64 (v2 + (1 : Int))) ≤ (v0.length : Int)) && decide ((v0.length : Int) ≤ (v0.length : Int))) then (some ((List.take (Int.toNat v2 - Int.toNat (0 : Int)) (List.drop (Int.toNat (0 : Int)) v0)), (List.take (Int.toNat (v0.length : Int) - Int.toNat (w64 (v2 + (1 : Int)))) (List.drop (Int.toNat (w64 (v2 + (1 : Int)))) v0)), true)) else (none)) else (none)) else (d193_m0 f v0 v1 (w64 (v2 + (1 : Int))))) else (none)) else (some (v0, ([] : List UInt8), false))
noncomputable def d193_m (x0 : List UInt8) : Option ((List UInt8) × (List UInt8) × Bool) := let y1 : Int := (x0.length : Int); d193_m0 1000000000 x0 y1 (0 : Int)
noncomputable def d193_k (x0 : List UInt8) : Bool := (d193_m x0).isSome
noncomputable def d193_r0 (x0 : List UInt8) : List UInt8 := ((d193_m x0).getD (dflt .str, dflt .str, dflt .bool)).1
noncomputable def d193_r1 (x0 : List UInt8) : List UInt8 := ((d193_m x0).getD (dflt .str, dflt .str, dflt .bool)).2.1
noncomputable def d193_r2 (x0 : List UInt8) : Bool := ((d193_m x0).getD (dflt .str, dflt .str, dflt .bool)).2.2
noncomputable def d193_W : FnW E := fn13 (E := E) .str .str .str .bool d193_k d193_r0 d193_r1 d193_r2
def d193_id : FuncId := 193
noncomputable def d193_O : Oracle E := orac [] [] [] []
noncomputable def d193_H : Hint E := Hint.mk [(0, [0, 7, 8])] [] [] [] [] 5 []
noncomputable def d193_C0 (v0 : List UInt8) (v1 v2 : Int) : ASt E := ASt.mk 24 [(0, .d (.str v0)), (7, .d (.int .i64 v1)), (8, .d (.int .i64 v2))] [] 0
noncomputable def d193_t (G : Nat → ASt E → Option (List (TV E))) (x0 : List UInt8) : Option (List (TV E)) :=
  let y1 : Int := (x0.length : Int); G 0 (d193_C0 x0 y1 0)
theorem d193_e (G : Nat → ASt E → Option (List (TV E))) (x0 : List UInt8) : runE d193_O d193_H G Tryz.f193 [⟨.str, x0⟩] = d193_t G x0 := by kernel_rfl
noncomputable def d193_t0 (G : Nat → ASt E → Option (List (TV E))) (v0 : List UInt8) (v1 v2 : Int) : Option (List (TV E)) :=
  bif (decide (v2 < v1)) then (bif (decide ((0 : Int) ≤ v2) && decide (v2 < (v0.length : Int))) then (bif ((((List.getD v0 (Int.toNat v2) 0).toNat : Nat) : Int) == (46 : Int)) then (bif (decide ((0 : Int) ≤ (0 : Int)) && decide ((0 : Int) ≤ v2) && decide (v2 ≤ (v0.length : Int))) then (bif (decide ((0 : Int) ≤ (w64 (v2 + (1 : Int)))) && decide ((w64 (v2 + (1 : Int))) ≤ (v0.length : Int)) && decide ((v0.length : Int) ≤ (v0.length : Int))) then some [⟨.str, (List.take (Int.toNat v2 - Int.toNat 0) (List.drop (Int.toNat 0) v0))⟩, ⟨.str, (List.take (Int.toNat (v0.length : Int) - Int.toNat (w64 (v2 + (1 : Int)))) (List.drop (Int.toNat (w64 (v2 + (1 : Int)))) v0))⟩, ⟨.bool, true⟩] else none) else none) else G 0 (d193_C0 v0 v1 (w64 (v2 + (1 : Int))))) else none) else some [⟨.str, v0⟩, ⟨.str, ([] : List UInt8)⟩, ⟨.bool, false⟩]
theorem d193_l0 (G : Nat → ASt E → Option (List (TV E))) (v0 : List UInt8) (v1 v2 : Int) : runL d193_O d193_H G Tryz.f193 0 (d193_C0 v0 v1 v2) = d193_t0 G v0 v1 v2 := by kernel_rfl
theorem d193_f : Tryz.prog.funcs[193]? = some Tryz.f193 := by kernel_rfl
theorem d193_n : (Tryz.f193.name == "runtime.NumGoroutine") = false := by kernel_rfl
theorem d193_b : Tryz.f193.body.isNone = false := by kernel_rfl
theorem d193_hO : OracleOk E d193_O := orac_ok .nil .nil .nil .nil
theorem d193_s0 {res : List (TV E)} {v0 : List UInt8} {v1 v2 : Int} (h : d193_t0 (Gr E Tryz.f193 res) v0 v1 v2 = some res) : Ev E Tryz.f193 res 0 (d193_C0 v0 v1 v2) := Ev.step d193_hO mix ((d193_l0 _ v0 v1 v2).trans h)
theorem d193_ok_of (h : ∀ (x0 : List UInt8), d193_k x0 = true → d193_t (Gr E Tryz.f193 [⟨.str, d193_r0 x0⟩, ⟨.str, d193_r1 x0⟩, ⟨.bool, d193_r2 x0⟩]) x0 = some [⟨.str, d193_r0 x0⟩, ⟨.str, d193_r1 x0⟩, ⟨.bool, d193_r2 x0⟩]) : FnOk E d193_id d193_W := fn13_ok d193_hO mix d193_f d193_n d193_b (fun x0 hk => (d193_e _ x0).trans (h x0 hk))
theorem d193_v (f : Nat) : (∀ (v0 : List UInt8) (v1 : Int) (v2 : Int) (r : (List UInt8) × (List UInt8) × Bool), d193_m0 f v0 v1 v2 = some r → Ev E Tryz.f193 [⟨.str, r.1⟩, ⟨.str, r.2.1⟩, ⟨.bool, r.2.2⟩] 0 (d193_C0 v0 v1 v2)) := by
  induction f with
  | zero => exact (fun _ _ _ _ h => by cases h)
  | succ f ih =>
    exact (fun v0 v1 v2 r h => d193_s0 (by unfold d193_m0 at h; unfold d193_t0; exact (bif2 h (fun h => (bif2 h (fun h => (bif2 h (fun h => (bif2 h (fun h => (bif2 h (fun h => (by have h := Option.some.inj h; subst h; exact rfl)) fun h => (by cases h))) fun h => (by cases h))) fun h => (Gr_of (ih _ _ _ _ h)))) fun h => (by cases h))) fun h => (by have h := Option.some.inj h; subst h; exact rfl))))
theorem d193_ok : FnOk E d193_id d193_W := d193_ok_of fun x0 hk => by
  have h := some_of (d := (dflt .str, dflt .str, dflt .bool)) hk
  unfold d193_t
  generalize hr : (d193_m x0).getD (dflt .str, dflt .str, dflt .bool) = r at h
  rw [show d193_r0 x0 = r.1 from congrArg (fun z => z.1) hr]; rw [show d193_r1 x0 = r.2.1 from congrArg (fun z => z.2.1) hr]; rw [show d193_r2 x0 = r.2.2 from congrArg (fun z => z.2.2) hr];
  unfold d193_m at h
  exact (Gr_of ((d193_v _) _ _ _ _ h))
noncomputable def d146_m0 : Nat → List UInt8 → List UInt8 → Int → Int → Option (Int × Int)
  | 0, _, _, _, _ => none
  | f + 1, v0, v1, v2, v3 => bif (decide (v3 < (3 : Int))) then (let y2 : Int := (v1.length : Int); bif (decide (y2 ≤ v3)) then (d146_m0 f v0 v1 (w64 (v2 * (10 : Int))) (w64 (v3 + (1 : Int)))) else (bif (decide ((0 : Int) ≤ v3) && decide (v3 < (v1.length : Int))) then (bif ((decide ((0 : Int) ≤ v3) && decide (v3 < (v1.length : Int))) || !(!(decide ((((List.getD v1 (Int.toNat v3) 0).toNat : Nat) : Int) < (48 : Int))))) then (bif (bif (decide ((((List.getD v1 (Int.toNat v3) 0).toNat : Nat) : Int) < (48 : Int))) then true else (decide ((57 : Int) < (((List.getD v1 (Int.toNat v3) 0).toNat : Nat) : Int)))) then (some ((0 : Int), (3 : Int))) else (bif (decide ((0 : Int) ≤ v3) && decide (v3 < (v1.length : Int))) then (d146_m0 f v0 v1 (w64 ((w64 (v2 * (10 : Int))) + (w64 (IntKind.wrap .u8 ((((List.getD v1 (Int.toNat v3) 0).toNat : Nat) : Int) - (48 : Int)))))) (w64 (v3 + (1 : Int)))) else (none))) else (none)) else (none))) else (bif (d191_k v0 (9007199254740 : Int)) then (let y3 : Int := (d191_r0 v0 (9007199254740 : Int)); let y4 : Int := (d191_r1 v0 (9007199254740 : Int)); bif (y4 != (0 : Int)) then (some ((0 : Int), y4)) else (bif (decide ((w64 ((9007199254740992 : Int) - v2)) < (w64 (y3 * (1000 : Int))))) then (some ((0 : Int), (9 : Int))) else (some ((w64 ((w64 (y3 * (1000 : Int))) + v2)), (0 : Int))))) else (none))
noncomputable def d146_m (x0 : List UInt8) : Option (Int × Int) := bif (d193_k x0) then (bif (d193_r2 x0) then (let y1 : Int := ((d193_r1 x0).length : Int); bif ((decide ((0 : Int) ≤ (w64 (((d193_r1 x0).length : Int) - (1 : Int)))) && decide ((w64 (((d193_r1 x0).length : Int) - (1 : Int))) < ((d193_r1 x0).length : Int))) || !(!(bif (decide (y1 < (1 : Int))) then true else (decide ((3 : Int) < ((d193_r1 x0).length : Int)))))) then (bif (bif (bif (decide (y1 < (1 : Int))) then true else (decide ((3 : Int) < ((d193_r1 x0).length : Int)))) then true else ((((List.getD (d193_r1 x0) (Int.toNat (w64 (((d193_r1 x0).length : Int) - (1 : Int)))) 0).toNat : Nat) : Int) == (48 : Int))) then (some ((0 : Int), (3 : Int))) else (d146_m0 1000000000 (d193_r0 x0) (d193_r1 x0) (0 : Int) (0 : Int))) else (none)) else (d146_m0 1000000000 (d193_r0 x0) (d193_r1 x0) (0 : Int) (0 : Int))) else (none)
noncomputable def d146_k (x0 : List UInt8) : Bool := (d146_m x0).isSome
noncomputable def d146_r0 (x0 : List UInt8) : Int := ((d146_m x0).getD (dflt .int, dflt .api_Errno)).1
noncomputable def d146_r1 (x0 : List UInt8) : Int := ((d146_m x0).getD (dflt .int, dflt .api_Errno)).2
noncomputable def d146_W : FnW E := fn12 (E := E) .str .int .api_Errno d146_k d146_r0 d146_r1
def d146_id : FuncId := 146
noncomputable def d146_O : Oracle E := orac [(193, d193_W), (191, d191_W)] [] [] []
noncomputable def d146_H : Hint E := Hint.mk [(0, [4, 5, 7, 34])] [] [] [] [] 5 []
noncomputable def d146_C0 (v0 v1 : List UInt8) (v2 v3 : Int) : ASt E := ASt.mk 80 [(4, .d (.str v0)), (5, .d (.str v1)), (7, .d (.int .i64 v2)), (34, .d (.int .i64 v3))] [] 0
noncomputable def d146_t (G : Nat → ASt E → Option (List (TV E))) (x0 : List UInt8) : Option (List (TV E)) :=
  bif (d193_k x0) then (bif (d193_r2 x0) then (let y1 : Int := ((d193_r1 x0).length : Int); bif ((decide ((0 : Int) ≤ (w64 (((d193_r1 x0).length : Int) - (1 : Int)))) && decide ((w64 (((d193_r1 x0).length : Int) - (1 : Int))) < ((d193_r1 x0).length : Int))) || !(!(bif (decide (y1 < (1 : Int))) then true else (decide ((3 : Int) < ((d193_r1 x0).length : Int)))))) then (bif (bif (bif (decide (y1 < (1 : Int))) then true else (decide ((3 : Int) < ((d193_r1 x0).length : Int)))) then true else ((((List.getD (d193_r1 x0) (Int.toNat (w64 (((d193_r1 x0).length : Int) - (1 : Int)))) 0).toNat : Nat) : Int) == (48 : Int))) then some [⟨.int, (0 : Int)⟩, ⟨.api_Errno, (3 : Int)⟩] else G 0 (d146_C0 (d193_r0 x0) (d193_r1 x0) 0 0)) else none) else G 0 (d146_C0 (d193_r0 x0) (d193_r1 x0) 0 0)) else none
theorem d146_e (G : Nat → ASt E → Option (List (TV E))) (x0 : List UInt8) : runE d146_O d146_H G Tryz.f146 [⟨.str, x0⟩] = d146_t G x0 := by kernel_rfl
noncomputable def d146_t0 (G : Nat → ASt E → Option (List (TV E))) (v0 v1 : List UInt8) (v2 v3 : Int) : Option (List (TV E)) :=
  bif (decide (v3 < (3 : Int))) then (let y2 : Int := (v1.length : Int); bif (decide (y2 ≤ v3)) then G 0 (d146_C0 v0 v1 (w64 (v2 * (10 : Int))) (w64 (v3 + (1 : Int)))) else (bif (decide ((0 : Int) ≤ v3) && decide (v3 < (v1.length : Int))) then (bif ((decide ((0 : Int) ≤ v3) && decide (v3 < (v1.length : Int))) || !(!(decide ((((List.getD v1 (Int.toNat v3) 0).toNat : Nat) : Int) < (48 : Int))))) then (bif (bif (decide ((((List.getD v1 (Int.toNat v3) 0).toNat : Nat) : Int) < (48 : Int))) then true else (decide ((57 : Int) < (((List.getD v1 (Int.toNat v3) 0).toNat : Nat) : Int)))) then some [⟨.int, (0 : Int)⟩, ⟨.api_Errno, (3 : Int)⟩] else (bif (decide ((0 : Int) ≤ v3) && decide (v3 < (v1.length : Int))) then G 0 (d146_C0 v0 v1 (w64 ((w64 (v2 * (10 : Int))) + (w64 (IntKind.wrap .u8 ((((List.getD v1 (Int.toNat v3) 0).toNat : Nat) : Int) - (48 : Int)))))) (w64 (v3 + (1 : Int)))) else none)) else none) else none)) else (bif (d191_k v0 9007199254740) then (let y3 : Int := (d191_r0 v0 9007199254740); let y4 : Int := (d191_r1 v0 9007199254740); bif (y4 != (0 : Int)) then some [⟨.int, (0 : Int)⟩, ⟨.api_Errno, y4⟩] else (bif (decide ((w64 ((9007199254740992 : Int) - v2)) < (w64 (y3 * (1000 : Int))))) then some [⟨.int, (0 : Int)⟩, ⟨.api_Errno, (9 : Int)⟩] else some [⟨.int, (w64 ((w64 (y3 * (1000 : Int))) + v2))⟩, ⟨.api_Errno, (0 : Int)⟩])) else none)
theorem d146_l0 (G : Nat → ASt E → Option (List (TV E))) (v0 v1 : List UInt8) (v2 v3 : Int) : runL d146_O d146_H G Tryz.f146 0 (d146_C0 v0 v1 v2 v3) = d146_t0 G v0 v1 v2 v3 := by kernel_rfl
theorem d146_f : Tryz.prog.funcs[146]? = some Tryz.f146 := by kernel_rfl
theorem d146_n : (Tryz.f146.name == "runtime.NumGoroutine") = false := by kernel_rfl
theorem d146_b : Tryz.f146.body.isNone = false := by kernel_rfl
theorem d146_hO : OracleOk E d146_O := orac_ok (.cons d193_ok (.cons d191_ok .nil)) .nil .nil .nil
theorem d146_s0 {res : List (TV E)} {v0 v1 : List UInt8} {v2 v3 : Int} (h : d146_t0 (Gr E Tryz.f146 res) v0 v1 v2 v3 = some res) : Ev E Tryz.f146 res 0 (d146_C0 v0 v1 v2 v3) := Ev.step d146_hO mix ((d146_l0 _ v0 v1 v2 v3).trans h)
theorem d146_ok_of (h : ∀ (x0 : List UInt8), d146_k x0 = true → d146_t (Gr E Tryz.f146 [⟨.int, d146_r0 x0⟩, ⟨.api_Errno, d146_r1 x0⟩]) x0 = some [⟨.int, d146_r0 x0⟩, ⟨.api_Errno, d146_r1 x0⟩]) : FnOk E d146_id d146_W := fn12_ok d146_hO mix d146_f d146_n d146_b (fun x0 hk => (d146_e _ x0).trans (h x0 hk))
theorem d146_v (f : Nat) : (∀ (v0 : List UInt8) (v1 : List UInt8) (v2 : Int) (v3 : Int) (r : Int × Int), d146_m0 f v0 v1 v2 v3 = some r → Ev E Tryz.f146 [⟨.int, r.1⟩, ⟨.api_Errno, r.2⟩] 0 (d146_C0 v0 v1 v2 v3)) := by
  induction f with
  | zero => exact (fun _ _ _ _ _ h => by cases h)
  | succ f ih =>
    exact (fun v0 v1 v2 v3 r h => d146_s0 (by unfold d146_m0 at h; unfold d146_t0; exact (bif2 h (fun h => (bif2 h (fun h => (Gr_of (ih _ _ _ _ _ h))) fun h => (bif2 h (fun h => (bif2 h (fun h => (bif2 h (fun h => (by have h := Option.some.inj h; subst h; exact rfl)) fun h => (bif2 h (fun h => (Gr_of (ih _ _ _ _ _ h))) fun h => (by cases h)))) fun h => (by cases h))) fun h => (by cases h)))) fun h => (bif2 h (fun h => (bif2 h (fun h => (by have h := Option.some.inj h; subst h; exact rfl)) fun h => (bif2 h (fun h => (by have h := Option.some.inj h; subst h; exact rfl)) fun h => (by have h := Option.some.inj h; subst h; exact rfl)))) fun h => (by cases h)))))
theorem d146_ok : FnOk E d146_id d146_W := d146_ok_of fun x0 hk => by
  have h := some_of (d := (dflt .int, dflt .api_Errno)) hk
  unfold d146_t
  generalize hr : (d146_m x0).getD (dflt .int, dflt .api_Errno) = r at h
  rw [show d146_r0 x0 = r.1 from congrArg (fun z => z.1) hr]; rw [show d146_r1 x0 = r.2 from congrArg (fun z => z.2) hr];
  unfold d146_m at h
  exact (bif2 h (fun h => (bif2 h (fun h => (bif2 h (fun h => (bif2 h (fun h => (by have h := Option.some.inj h; subst h; exact rfl)) fun h => (Gr_of ((d146_v _) _ _ _ _ _ h)))) fun h => (by cases h))) fun h => (Gr_of ((d146_v _) _ _ _ _ _ h)))) fun h => (by cases h))
noncomputable def d291_m (x0 : List UInt8) : Option (Bool) := bif (d146_k x0) then (some ((bif ((d146_r1 x0) == (0 : Int)) then (decide ((0 : Int) < (d146_r0 x0))) else false))) else (none)
noncomputable def d291_k (x0 : List UInt8) : Bool := (d291_m x0).isSome
noncomputable def d291_r0 (x0 : List UInt8) : Bool := ((d291_m x0).getD (dflt .bool))
noncomputable def d291_W : FnW E := fn1 (E := E) .str .bool d291_k d291_r0
def d291_id : FuncId := 291
noncomputable def d291_O : Oracle E := orac [(146, d146_W)] [] [] []
noncomputable def d291_H : Hint E := Hint.mk [] [] [] [] [] 5 []
noncomputable def d291_t (_G : Nat → ASt E → Option (List (TV E))) (x0 : List UInt8) : Option (List (TV E)) :=
  bif (d146_k x0) then some [⟨.bool, (bif ((d146_r1 x0) == (0 : Int)) then (decide ((0 : Int) < (d146_r0 x0))) else false)⟩] else none
theorem d291_e (G : Nat → ASt E → Option (List (TV E))) (x0 : List UInt8) : runE d291_O d291_H G Tryz.f291 [⟨.str, x0⟩] = d291_t G x0 := by kernel_rfl
theorem d291_f : Tryz.prog.funcs[291]? = some Tryz.f291 := by kernel_rfl
theorem d291_n : (Tryz.f291.name == "runtime.NumGoroutine") = false := by kernel_rfl
theorem d291_b : Tryz.f291.body.isNone = false := by kernel_rfl
theorem d291_hO : OracleOk E d291_O := orac_ok (.cons d146_ok .nil) .nil .nil .nil
theorem d291_ok_of (h : ∀ (x0 : List UInt8), d291_k x0 = true → d291_t (Gr E Tryz.f291 [⟨.bool, d291_r0 x0⟩]) x0 = some [⟨.bool, d291_r0 x0⟩]) : FnOk E d291_id d291_W := fn1_ok d291_hO mix d291_f d291_n d291_b (fun x0 hk => (d291_e _ x0).trans (h x0 hk))
theorem d291_ok : FnOk E d291_id d291_W := d291_ok_of fun x0 hk => by
  have h := some_of (d := (dflt .bool)) hk
  unfold d291_t
  generalize hr : (d291_m x0).getD (dflt .bool) = r at h
  rw [show d291_r0 x0 = r from hr];
  unfold d291_m at h
  exact (bif2 h (fun h => (by have h := Option.some.inj h; subst h; exact rfl)) fun h => (by cases h))
noncomputable def d249_m (x0 : Node) : Option (Node × Int) := bif ((d291_k x0.text) || !(!(x0.kind != (1 : Int)))) then (bif (bif (x0.kind != (1 : Int)) then true else (!(d291_r0 x0.text))) then (some ((⟨(0 : Int), ([] : List UInt8), ([] : List (List UInt8)), ([] : List Node)⟩ : Node), (10 : Int))) else (some ((⟨x0.kind, x0.text, x0.keys, x0.kids⟩ : Node), (0 : Int)))) else (none)
noncomputable def d249_k (x0 : Node) : Bool := (d249_m x0).isSome
noncomputable def d249_r0 (x0 : Node) : Node := ((d249_m x0).getD (dflt .api_Node, dflt .api_Errno)).1
noncomputable def d249_r1 (x0 : Node) : Int := ((d249_m x0).getD (dflt .api_Node, dflt .api_Errno)).2
noncomputable def d249_W : FnW E := fn12 (E := E) .api_Node .api_Node .api_Errno d249_k d249_r0 d249_r1
def d249_id : FuncId := 249
noncomputable def d249_O : Oracle E := withI (orac [(291, d291_W)] [] [] []) [(213, Tryz.f213), (272, Tryz.f272)]
noncomputable def d249_H : Hint E := Hint.mk [] [] [] [] [] 5 []
noncomputable def d249_t (_G : Nat → ASt E → Option (List (TV E))) (x0 : Node) : Option (List (TV E)) :=
  bif ((d291_k x0.text) || !(!(x0.kind != (1 : Int)))) then (bif (bif (x0.kind != (1 : Int)) then true else (!(d291_r0 x0.text))) then some [⟨.api_Node, (⟨0, [], [], []⟩ : Node)⟩, ⟨.api_Errno, (10 : Int)⟩] else some [⟨.api_Node, (⟨x0.kind, x0.text, x0.keys, x0.kids⟩ : Node)⟩, ⟨.api_Errno, (0 : Int)⟩]) else none
theorem d249_e (G : Nat → ASt E → Option (List (TV E))) (x0 : Node) : runE d249_O d249_H G Tryz.f249 [⟨.api_Node, x0⟩] = d249_t G x0 := by kernel_rfl
theorem d249_f : Tryz.prog.funcs[249]? = some Tryz.f249 := by kernel_rfl
theorem d249_n : (Tryz.f249.name == "runtime.NumGoroutine") = false := by kernel_rfl
theorem d249_b : Tryz.f249.body.isNone = false := by kernel_rfl
theorem d249_hO : OracleOk E d249_O := withI_ok (orac_ok (.cons d291_ok .nil) .nil .nil .nil) mix (.cons (f := 213) (fn := Tryz.f213) (by kernel_rfl) (by kernel_rfl) (by kernel_rfl) (.cons (f := 272) (fn := Tryz.f272) (by kernel_rfl) (by kernel_rfl) (by kernel_rfl) .nil))
theorem d249_ok_of (h : ∀ (x0 : Node), d249_k x0 = true → d249_t (Gr E Tryz.f249 [⟨.api_Node, d249_r0 x0⟩, ⟨.api_Errno, d249_r1 x0⟩]) x0 = some [⟨.api_Node, d249_r0 x0⟩, ⟨.api_Errno, d249_r1 x0⟩]) : FnOk E d249_id d249_W := fn12_ok d249_hO mix d249_f d249_n d249_b (fun x0 hk => (d249_e _ x0).trans (h x0 hk))
theorem d249_ok : FnOk E d249_id d249_W := d249_ok_of fun x0 hk => by
  have h := some_of (d := (dflt .api_Node, dflt .api_Errno)) hk
  unfold d249_t
  generalize hr : (d249_m x0).getD (dflt .api_Node, dflt .api_Errno) = r at h
  rw [show d249_r0 x0 = r.1 from congrArg (fun z => z.1) hr]; rw [show d249_r1 x0 = r.2 from congrArg (fun z => z.2) hr];
  unfold d249_m at h
  exact (bif2 h (fun h => (bif2 h (fun h => (by have h := Option.some.inj h; subst h; exact rfl)) fun h => (by have h := Option.some.inj h; subst h; exact rfl))) fun h => (by cases h))
end Go.Proofs.YtoibjelpldfpfaaGreatDoor.Rf
