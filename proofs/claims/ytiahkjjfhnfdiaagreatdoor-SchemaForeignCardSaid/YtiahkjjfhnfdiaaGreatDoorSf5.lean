/- Part 5 of a proof: the texts M1 MirY I1 I2, one behind the other. -/
import Derived.Test.YtiahkjjfhnfdiaaGreatDoorSf4
import Derived.RangeFuncRecord
import Derived.RangeFuncCalls
import Derived.OrdersIn
namespace Go.Proofs.YtiahkjjfhnfdiaaGreatDoor.Rf
open Go Go.RowKit Go.Sort Go.Proofs.YtiahkjjfhnfdiaaGreatDoor.Mir
noncomputable section
inductive internal_stringslite_HasPrefix_S where
  | e (x0 : List UInt8) (x1 : List UInt8)
def internal_stringslite_HasPrefix_t : Tree (Bool) internal_stringslite_HasPrefix_S := fun _ k _ n s => match s with
  | .e x0 x1 => ck ((decide (0 ≤ (0 : Int)) && decide (0 ≤ (x1.length : Int)) && decide ((x1.length : Int) ≤ (x0.length : Int))) || !(decide ((x1.length : Int) ≤ (x0.length : Int)))) n (k (bif (decide ((x1.length : Int) ≤ (x0.length : Int))) then ((cut x0 (0 : Int) (x1.length : Int)) == x1) else false))
def internal_stringslite_HasPrefix_O : Oracle E := orac []
theorem internal_stringslite_HasPrefix_hO : OracleOk E internal_stringslite_HasPrefix_O := orac_ok .nil .nil .nil .nil
def internal_stringslite_HasPrefix_H : Hint E := {}
def internal_stringslite_HasPrefix_C : internal_stringslite_HasPrefix_S → Hd E
  | .e x0 x1 => .e [⟨.str, x0⟩, ⟨.str, x1⟩]
theorem internal_stringslite_HasPrefix_N : NatT internal_stringslite_HasPrefix_t := fun τ k g n s => by cases s <;> simp only [internal_stringslite_HasPrefix_t, eA]
theorem internal_stringslite_HasPrefix_R : Runs (E := E) .fn internal_stringslite_HasPrefix_O Tryz.f62 internal_stringslite_HasPrefix_H internal_stringslite_HasPrefix_C (encA (E := E) [.bool]) internal_stringslite_HasPrefix_t := ⟨fun s G => by cases s <;> kernel_rfl, internal_stringslite_HasPrefix_N⟩
def internal_stringslite_HasPrefix_m (x0 : List UInt8) (x1 : List UInt8) : Option (Bool) := mu internal_stringslite_HasPrefix_t (.e x0 x1)
def internal_stringslite_HasPrefix_W : FnW E := fnG (E := E) [.str, .str] [.bool] fun a => internal_stringslite_HasPrefix_m a.1 a.2
theorem internal_stringslite_HasPrefix_ok : FnOk E 62 internal_stringslite_HasPrefix_W := Runs.fn (E := E) (ps := [.str, .str]) (rs := [.bool]) internal_stringslite_HasPrefix_R internal_stringslite_HasPrefix_hO mix ⟨Tryz.func62, by kernel_rfl, by kernel_rfl⟩ (st := fun a => .e a.1 a.2) (fun _ => rfl) fun _ r h => ⟨r, h, rfl⟩
inductive strings_HasPrefix_S where
  | e (x0 : List UInt8) (x1 : List UInt8)
def strings_HasPrefix_t : Tree (Bool) strings_HasPrefix_S := fun _ k _ n s => match s with
  | .e x0 x1 => cl (internal_stringslite_HasPrefix_m x0 x1) n fun y1 => k y1
def strings_HasPrefix_O : Oracle E := orac [(62, internal_stringslite_HasPrefix_W)]
theorem strings_HasPrefix_hO : OracleOk E strings_HasPrefix_O := orac_ok (.cons internal_stringslite_HasPrefix_ok .nil) .nil .nil .nil
def strings_HasPrefix_H : Hint E := {}
def strings_HasPrefix_C : strings_HasPrefix_S → Hd E
  | .e x0 x1 => .e [⟨.str, x0⟩, ⟨.str, x1⟩]
theorem strings_HasPrefix_N : NatT strings_HasPrefix_t := fun τ k g n s => by cases s <;> simp only [strings_HasPrefix_t, eA]
theorem strings_HasPrefix_R : Runs (E := E) .fn strings_HasPrefix_O Tryz.f28 strings_HasPrefix_H strings_HasPrefix_C (encA (E := E) [.bool]) strings_HasPrefix_t := ⟨fun s G => by cases s <;> kernel_rfl, strings_HasPrefix_N⟩
def strings_HasPrefix_m (x0 : List UInt8) (x1 : List UInt8) : Option (Bool) := mu strings_HasPrefix_t (.e x0 x1)
def strings_HasPrefix_W : FnW E := fnG (E := E) [.str, .str] [.bool] fun a => strings_HasPrefix_m a.1 a.2
theorem strings_HasPrefix_ok : FnOk E 28 strings_HasPrefix_W := Runs.fn (E := E) (ps := [.str, .str]) (rs := [.bool]) strings_HasPrefix_R strings_HasPrefix_hO mix ⟨Tryz.func28, by kernel_rfl, by kernel_rfl⟩ (st := fun a => .e a.1 a.2) (fun _ => rfl) fun _ r h => ⟨r, h, rfl⟩
inductive schema_foreign_S where
  | e (x0 : List UInt8)
def schema_foreign_t : Tree (Bool) schema_foreign_S := fun _ k _ n s => match s with
  | .e x0 => cl (strings_HasPrefix_m x0 ([120, 45] : List UInt8)) n fun y1 => k y1
def schema_foreign_O : Oracle E := orac [(28, strings_HasPrefix_W)]
theorem schema_foreign_hO : OracleOk E schema_foreign_O := orac_ok (.cons strings_HasPrefix_ok .nil) .nil .nil .nil
def schema_foreign_H : Hint E := {}
def schema_foreign_C : schema_foreign_S → Hd E
  | .e x0 => .e [⟨.str, x0⟩]
theorem schema_foreign_N : NatT schema_foreign_t := fun τ k g n s => by cases s <;> simp only [schema_foreign_t, eA]
theorem schema_foreign_R : Runs (E := E) .fn schema_foreign_O Tryz.f16 schema_foreign_H schema_foreign_C (encA (E := E) [.bool]) schema_foreign_t := ⟨fun s G => by cases s <;> kernel_rfl, schema_foreign_N⟩
def schema_foreign_m (x0 : List UInt8) : Option (Bool) := mu schema_foreign_t (.e x0)
def schema_foreign_W : FnW E := fnG (E := E) [.str] [.bool] fun a => schema_foreign_m a
theorem schema_foreign_ok : FnOk E 16 schema_foreign_W := Runs.fn (E := E) (ps := [.str]) (rs := [.bool]) schema_foreign_R schema_foreign_hO mix ⟨Tryz.func16, by kernel_rfl, by kernel_rfl⟩ (st := fun a => .e a) (fun _ => rfl) fun _ r h => ⟨r, h, rfl⟩
inductive name_small_S where
  | e (x0 : Int)
def name_small_t : Tree (Bool) name_small_S := fun _ k _ _ s => match s with
  | .e x0 => k (bif (decide ((97 : Int) ≤ x0)) then (decide (x0 ≤ (122 : Int))) else false)
def name_small_O : Oracle E := orac []
theorem name_small_hO : OracleOk E name_small_O := orac_ok .nil .nil .nil .nil
def name_small_H : Hint E := {}
def name_small_C : name_small_S → Hd E
  | .e x0 => .e [⟨.byte, x0⟩]
theorem name_small_N : NatT name_small_t := fun τ k g n s => by cases s <;> simp only [name_small_t, eA]
theorem name_small_R : Runs (E := E) .fn name_small_O Tryz.f47 name_small_H name_small_C (encA (E := E) [.bool]) name_small_t := ⟨fun s G => by cases s <;> kernel_rfl, name_small_N⟩
def name_small_m (x0 : Int) : Option (Bool) := mu name_small_t (.e x0)
def name_small_W : FnW E := fnG (E := E) [.byte] [.bool] fun a => name_small_m a
theorem name_small_ok : FnOk E 47 name_small_W := Runs.fn (E := E) (ps := [.byte]) (rs := [.bool]) name_small_R name_small_hO mix ⟨Tryz.func47, by kernel_rfl, by kernel_rfl⟩ (st := fun a => .e a) (fun _ => rfl) fun _ r h => ⟨r, h, rfl⟩
inductive name_letter_S where
  | e (x0 : Int)
def name_letter_t : Tree (Bool) name_letter_S := fun _ k _ n s => match s with
  | .e x0 => cl (name_small_m x0) n fun y1 => k (bif y1 then true else (bif (decide ((65 : Int) ≤ x0)) then (decide (x0 ≤ (90 : Int))) else false))
def name_letter_O : Oracle E := orac [(47, name_small_W)]
theorem name_letter_hO : OracleOk E name_letter_O := orac_ok (.cons name_small_ok .nil) .nil .nil .nil
def name_letter_H : Hint E := {}
def name_letter_C : name_letter_S → Hd E
  | .e x0 => .e [⟨.byte, x0⟩]
theorem name_letter_N : NatT name_letter_t := fun τ k g n s => by cases s <;> simp only [name_letter_t, eA]
theorem name_letter_R : Runs (E := E) .fn name_letter_O Tryz.f98 name_letter_H name_letter_C (encA (E := E) [.bool]) name_letter_t := ⟨fun s G => by cases s <;> kernel_rfl, name_letter_N⟩
def name_letter_m (x0 : Int) : Option (Bool) := mu name_letter_t (.e x0)
def name_letter_W : FnW E := fnG (E := E) [.byte] [.bool] fun a => name_letter_m a
theorem name_letter_ok : FnOk E 98 name_letter_W := Runs.fn (E := E) (ps := [.byte]) (rs := [.bool]) name_letter_R name_letter_hO mix ⟨Tryz.func98, by kernel_rfl, by kernel_rfl⟩ (st := fun a => .e a) (fun _ => rfl) fun _ r h => ⟨r, h, rfl⟩
inductive name_number_S where
  | e (x0 : Int)
def name_number_t : Tree (Bool) name_number_S := fun _ k _ _ s => match s with
  | .e x0 => k (bif (decide ((48 : Int) ≤ x0)) then (decide (x0 ≤ (57 : Int))) else false)
def name_number_O : Oracle E := orac []
theorem name_number_hO : OracleOk E name_number_O := orac_ok .nil .nil .nil .nil
def name_number_H : Hint E := {}
def name_number_C : name_number_S → Hd E
  | .e x0 => .e [⟨.byte, x0⟩]
theorem name_number_N : NatT name_number_t := fun τ k g n s => by cases s <;> simp only [name_number_t, eA]
theorem name_number_R : Runs (E := E) .fn name_number_O Tryz.f48 name_number_H name_number_C (encA (E := E) [.bool]) name_number_t := ⟨fun s G => by cases s <;> kernel_rfl, name_number_N⟩
def name_number_m (x0 : Int) : Option (Bool) := mu name_number_t (.e x0)
def name_number_W : FnW E := fnG (E := E) [.byte] [.bool] fun a => name_number_m a
theorem name_number_ok : FnOk E 48 name_number_W := Runs.fn (E := E) (ps := [.byte]) (rs := [.bool]) name_number_R name_number_hO mix ⟨Tryz.func48, by kernel_rfl, by kernel_rfl⟩ (st := fun a => .e a) (fun _ => rfl) fun _ r h => ⟨r, h, rfl⟩
inductive name_Service_1_S where
  | e (x0 : Int)
def name_Service_1_t : Tree (Bool) name_Service_1_S := fun _ k _ n s => match s with
  | .e x0 => cl (name_letter_m x0) n fun y1 => ck (((name_number_m x0).isSome) || !(!y1)) n (k (bif y1 then true else (gv (name_number_m x0))))
def name_Service_1_O : Oracle E := orac [(98, name_letter_W), (48, name_number_W)]
theorem name_Service_1_hO : OracleOk E name_Service_1_O := orac_ok (.cons name_letter_ok (.cons name_number_ok .nil)) .nil .nil .nil
def name_Service_1_H : Hint E := {}
def name_Service_1_C : name_Service_1_S → Hd E
  | .e x0 => .e [⟨.byte, x0⟩]
theorem name_Service_1_N : NatT name_Service_1_t := fun τ k g n s => by cases s <;> simp only [name_Service_1_t, eA]
theorem name_Service_1_R : Runs (E := E) .fn name_Service_1_O Tryz.f97 name_Service_1_H name_Service_1_C (encA (E := E) [.bool]) name_Service_1_t := ⟨fun s G => by cases s <;> kernel_rfl, name_Service_1_N⟩
def name_Service_1_m (x0 : Int) : Option (Bool) := mu name_Service_1_t (.e x0)
def name_Service_1_W : FnW E := fnG (E := E) [.byte] [.bool] fun a => name_Service_1_m a
theorem name_Service_1_ok : FnOk E 97 name_Service_1_W := Runs.fn (E := E) (ps := [.byte]) (rs := [.bool]) name_Service_1_R name_Service_1_hO mix ⟨Tryz.func97, by kernel_rfl, by kernel_rfl⟩ (st := fun a => .e a) (fun _ => rfl) fun _ r h => ⟨r, h, rfl⟩
inductive name_of__name_Service_1__name_Service_2_S where
  | e (x0 : List UInt8)
  | h0 (v0 : List UInt8) (v1 : Int)
def name_of__name_Service_1__name_Service_2_t : Tree (Bool) name_of__name_Service_1__name_Service_2_S := fun _ k g n s => match s with
  | .e x0 => ck ((decide (0 ≤ (0 : Int)) && decide ((0 : Int) < (x0.length : Int))) || !(!(bif (decide ((x0.length : Int) < (1 : Int))) then true else (decide ((24 : Int) < (x0.length : Int)))))) n (ck (((name_Service_1_m (((List.getD x0 (Int.toNat (0 : Int)) 0).toNat : Nat) : Int)).isSome) || !(!(bif (decide ((x0.length : Int) < (1 : Int))) then true else (decide ((24 : Int) < (x0.length : Int)))))) n (bif (bif (bif (decide ((x0.length : Int) < (1 : Int))) then true else (decide ((24 : Int) < (x0.length : Int)))) then true else (!(gv (name_Service_1_m (((List.getD x0 (Int.toNat (0 : Int)) 0).toNat : Nat) : Int))))) then k false else g (.h0 x0 (1 : Int))))
  | .h0 v0 v1 => bif (decide (v1 < (v0.length : Int))) then (ixb v0 v1 n fun y1 => cl (name_letter_m y1) n fun y2 => ck (((name_number_m y1).isSome) || !(!y2)) n (bif (!(bif (bif (bif (bif y2 then true else (gv (name_number_m y1))) then true else (y1 == (45 : Int))) then true else (y1 == (95 : Int))) then true else (y1 == (46 : Int)))) then k false else g (.h0 v0 (w64 (v1 + (1 : Int)))))) else k true
def name_of__name_Service_1__name_Service_2_O : Oracle E := withI (orac [(97, name_Service_1_W), (98, name_letter_W), (48, name_number_W)]) [(99, Tryz.f99)]
theorem name_of__name_Service_1__name_Service_2_hO : OracleOk E name_of__name_Service_1__name_Service_2_O := withI_ok (orac_ok (.cons name_Service_1_ok (.cons name_letter_ok (.cons name_number_ok .nil))) .nil .nil .nil) mix (.cons (f := 99) (fn := Tryz.f99) (by kernel_rfl) (by kernel_rfl) (by kernel_rfl) .nil)
def name_of__name_Service_1__name_Service_2_H : Hint E := { live := [(0, [0, 2, 7])] }
def name_of__name_Service_1__name_Service_2_C : name_of__name_Service_1__name_Service_2_S → Hd E
  | .e x0 => .c [.v ⟨.str, x0⟩, .c 97 [] [], .c 99 [] []]
  | .h0 v0 v1 => .h 0 ⟨35, [(0, .d (.str v0)), (2, .d (.raw (.func (.func 99) #[] #[]))), (7, .d (.int .i64 v1))], [], 0⟩
theorem name_of__name_Service_1__name_Service_2_N : NatT name_of__name_Service_1__name_Service_2_t := fun τ k g n s => by cases s <;> simp only [name_of__name_Service_1__name_Service_2_t, eA]
theorem name_of__name_Service_1__name_Service_2_R : Runs (E := E) .fn name_of__name_Service_1__name_Service_2_O Tryz.f45 name_of__name_Service_1__name_Service_2_H name_of__name_Service_1__name_Service_2_C (encA (E := E) [.bool]) name_of__name_Service_1__name_Service_2_t := ⟨fun s G => by cases s <;> kernel_rfl, name_of__name_Service_1__name_Service_2_N⟩
def name_of__name_Service_1__name_Service_2_m (x0 : List UInt8) : Option (Bool) := mu name_of__name_Service_1__name_Service_2_t (.e x0)
def name_of__name_Service_1__name_Service_2_A : FnP E := fnP (E := E) [.v .str, .c 97 [] [], .c 99 [] []] [.bool] fun a => name_of__name_Service_1__name_Service_2_m a
theorem name_of__name_Service_1__name_Service_2_aok : AOk E 45 name_of__name_Service_1__name_Service_2_A := Runs.cl (E := E) (sh := [.v .str, .c 97 [] [], .c 99 [] []]) (rs := [.bool]) name_of__name_Service_1__name_Service_2_R name_of__name_Service_1__name_Service_2_hO mix ⟨Tryz.func45, by kernel_rfl, by kernel_rfl⟩ (st := fun a => .e a) (fun _ => rfl) fun _ r h => ⟨r, h, rfl⟩
inductive name_Service_S where
  | e (x0 : List UInt8)
def name_Service_t : Tree (Bool) name_Service_S := fun _ k _ n s => match s with
  | .e x0 => cl (name_of__name_Service_1__name_Service_2_m x0) n fun y1 => k y1
def name_Service_O : Oracle E := withA (orac []) [(45, name_of__name_Service_1__name_Service_2_A)]
theorem name_Service_hO : OracleOk E name_Service_O := withA_ok (orac_ok .nil .nil .nil .nil) (.cons name_of__name_Service_1__name_Service_2_aok .nil)
def name_Service_H : Hint E := {}
def name_Service_C : name_Service_S → Hd E
  | .e x0 => .e [⟨.str, x0⟩]
theorem name_Service_N : NatT name_Service_t := fun τ k g n s => by cases s <;> simp only [name_Service_t, eA]
theorem name_Service_R : Runs (E := E) .fn name_Service_O Tryz.f43 name_Service_H name_Service_C (encA (E := E) [.bool]) name_Service_t := ⟨fun s G => by cases s <;> kernel_rfl, name_Service_N⟩
def name_Service_m (x0 : List UInt8) : Option (Bool) := mu name_Service_t (.e x0)
def name_Service_W : FnW E := fnG (E := E) [.str] [.bool] fun a => name_Service_m a
theorem name_Service_ok : FnOk E 43 name_Service_W := Runs.fn (E := E) (ps := [.str]) (rs := [.bool]) name_Service_R name_Service_hO mix ⟨Tryz.func43, by kernel_rfl, by kernel_rfl⟩ (st := fun a => .e a) (fun _ => rfl) fun _ r h => ⟨r, h, rfl⟩
inductive schema_path_S where
  | e (x0 : List (List UInt8))
  | h0 (v0 : List (List UInt8)) (v1 : List (List UInt8)) (v2 : Int) (v3 : Int)
def schema_path_t : Tree ((List UInt8)) schema_path_S := fun _ k g n s => match s with
  | .e x0 => g (.h0 ([] : List (List UInt8)) x0 (x0.length : Int) (0 : Int))
  | .h0 v0 v1 v2 v3 => bif (decide (v3 < v2)) then (ix v1 v3 n fun y1 => bif (!(y1 == ([] : List UInt8))) then (ck (decide ((v0.length + ([y1] : List (List UInt8)).length) * 16 ≤ maxBytes)) n (g (.h0 (v0 ++ ([y1] : List (List UInt8))) v1 v2 (w64 (v3 + (1 : Int)))))) else g (.h0 v0 v1 v2 (w64 (v3 + (1 : Int))))) else (ck (okJn v0 ([46] : List UInt8)) n (k (Lib.join v0 ([46] : List UInt8))))
def schema_path_O : Oracle E := orac [(100, sjoin_W)]
theorem schema_path_hO : OracleOk E schema_path_O := orac_ok (.cons sjoin_ok .nil) .nil .nil .nil
def schema_path_H : Hint E := { live := [(0, [3, 6, 7, 8])], nils := [(0, [(3, none, true, .str)])] }
def schema_path_C : schema_path_S → Hd E
  | .e x0 => .e [⟨.l_str, x0⟩]
  | .h0 v0 v1 v2 v3 => .h 0 ⟨21, [(3, .grow .str v0 0), (6, .d (.slice .str v1)), (7, .d (.int .i64 v2)), (8, .d (.int .i64 v3))], [(0, .tail true)], 1⟩
theorem schema_path_N : NatT schema_path_t := fun τ k g n s => by cases s <;> simp only [schema_path_t, eA]
theorem schema_path_R : Runs (E := E) .fn schema_path_O Tryz.f44 schema_path_H schema_path_C (encA (E := E) [.str]) schema_path_t := ⟨fun s G => by cases s <;> kernel_rfl, schema_path_N⟩
def schema_path_m (x0 : List (List UInt8)) : Option ((List UInt8)) := mu schema_path_t (.e x0)
def schema_path_W : FnW E := fnG (E := E) [.l_str] [.str] fun a => schema_path_m a
theorem schema_path_ok : FnOk E 44 schema_path_W := Runs.fn (E := E) (ps := [.l_str]) (rs := [.str]) schema_path_R schema_path_hO mix ⟨Tryz.func44, by kernel_rfl, by kernel_rfl⟩ (st := fun a => .e a) (fun _ => rfl) fun _ r h => ⟨r, h, rfl⟩
inductive norm_none_S where
  | e
def norm_none_t : Tree (Node × Int) norm_none_S := fun _ k _ _ s => match s with
  | .e => k ((⟨(0 : Int), ([] : List UInt8), ([] : List (List UInt8)), ([] : List Node)⟩ : Node), (10 : Int))
def norm_none_O : Oracle E := orac []
theorem norm_none_hO : OracleOk E norm_none_O := orac_ok .nil .nil .nil .nil
def norm_none_H : Hint E := {}
def norm_none_C : norm_none_S → Hd E
  | .e => .e []
theorem norm_none_N : NatT norm_none_t := fun τ k g n s => by cases s <;> simp only [norm_none_t, eA]
theorem norm_none_R : Runs (E := E) .fn norm_none_O Tryz.f66 norm_none_H norm_none_C (encA (E := E) [.api_Node, .api_Errno]) norm_none_t := ⟨fun s G => by cases s <;> kernel_rfl, norm_none_N⟩
def norm_none_m : Option (Node × Int) := mu norm_none_t (.e)
def norm_none_W : FnW E := fnG (E := E) [] [.api_Node, .api_Errno] fun _ => norm_none_m
theorem norm_none_ok : FnOk E 66 norm_none_W := Runs.fn (E := E) (ps := []) (rs := [.api_Node, .api_Errno]) norm_none_R norm_none_hO mix ⟨Tryz.func66, by kernel_rfl, by kernel_rfl⟩ (st := fun _ => .e ) (fun _ => rfl) fun _ r h => ⟨r, h, rfl⟩
inductive norm_Line_1_S where
  | e (x0 : List UInt8)
def norm_Line_1_t : Tree (Bool) norm_Line_1_S := fun _ k _ _ s => match s with
  | .e x0 => k (bif (!(x0 == ([] : List UInt8))) then (decide ((x0.length : Int) ≤ (64 : Int))) else false)
def norm_Line_1_O : Oracle E := orac []
theorem norm_Line_1_hO : OracleOk E norm_Line_1_O := orac_ok .nil .nil .nil .nil
def norm_Line_1_H : Hint E := {}
def norm_Line_1_C : norm_Line_1_S → Hd E
  | .e x0 => .e [⟨.str, x0⟩]
theorem norm_Line_1_N : NatT norm_Line_1_t := fun τ k g n s => by cases s <;> simp only [norm_Line_1_t, eA]
theorem norm_Line_1_R : Runs (E := E) .fn norm_Line_1_O Tryz.f64 norm_Line_1_H norm_Line_1_C (encA (E := E) [.bool]) norm_Line_1_t := ⟨fun s G => by cases s <;> kernel_rfl, norm_Line_1_N⟩
def norm_Line_1_m (x0 : List UInt8) : Option (Bool) := mu norm_Line_1_t (.e x0)
def norm_Line_1_W : FnW E := fnG (E := E) [.str] [.bool] fun a => norm_Line_1_m a
theorem norm_Line_1_ok : FnOk E 64 norm_Line_1_W := Runs.fn (E := E) (ps := [.str]) (rs := [.bool]) norm_Line_1_R norm_Line_1_hO mix ⟨Tryz.func64, by kernel_rfl, by kernel_rfl⟩ (st := fun a => .e a) (fun _ => rfl) fun _ r h => ⟨r, h, rfl⟩
inductive norm_text__norm_Line_1_S where
  | e (x0 : Node)
def norm_text__norm_Line_1_t : Tree (Node × Int) norm_text__norm_Line_1_S := fun _ k _ n s => match s with
  | .e x0 => ck (((norm_Line_1_m x0.text).isSome) || !(!(x0.kind != (1 : Int)))) n (bif (bif (x0.kind != (1 : Int)) then true else (!(gv (norm_Line_1_m x0.text)))) then (cl norm_none_m n fun y1 => k ((etNode (y1.1)), y1.2)) else k ((etNode x0), (0 : Int)))
def norm_text__norm_Line_1_O : Oracle E := orac [(64, norm_Line_1_W), (66, norm_none_W)]
theorem norm_text__norm_Line_1_hO : OracleOk E norm_text__norm_Line_1_O := orac_ok (.cons norm_Line_1_ok (.cons norm_none_ok .nil)) .nil .nil .nil
def norm_text__norm_Line_1_H : Hint E := {}
def norm_text__norm_Line_1_C : norm_text__norm_Line_1_S → Hd E
  | .e x0 => .c [.v ⟨.api_Node, x0⟩, .c 64 [] []]
theorem norm_text__norm_Line_1_N : NatT norm_text__norm_Line_1_t := fun τ k g n s => by cases s <;> simp only [norm_text__norm_Line_1_t, eA]
theorem norm_text__norm_Line_1_R : Runs (E := E) .fn norm_text__norm_Line_1_O Tryz.f63 norm_text__norm_Line_1_H norm_text__norm_Line_1_C (encA (E := E) [.api_Node, .api_Errno]) norm_text__norm_Line_1_t := ⟨fun s G => by cases s <;> kernel_rfl, norm_text__norm_Line_1_N⟩
def norm_text__norm_Line_1_m (x0 : Node) : Option (Node × Int) := mu norm_text__norm_Line_1_t (.e x0)
def norm_text__norm_Line_1_A : FnP E := fnP (E := E) [.v .api_Node, .c 64 [] []] [.api_Node, .api_Errno] fun a => norm_text__norm_Line_1_m a
theorem norm_text__norm_Line_1_aok : AOk E 63 norm_text__norm_Line_1_A := Runs.cl (E := E) (sh := [.v .api_Node, .c 64 [] []]) (rs := [.api_Node, .api_Errno]) norm_text__norm_Line_1_R norm_text__norm_Line_1_hO mix ⟨Tryz.func63, by kernel_rfl, by kernel_rfl⟩ (st := fun a => .e a) (fun _ => rfl) fun _ r h => ⟨r, h, rfl⟩
inductive norm_Line_S where
  | e (x0 : Node)
def norm_Line_t : Tree (Node × Int) norm_Line_S := fun _ k _ n s => match s with
  | .e x0 => cl (norm_text__norm_Line_1_m (etNode x0)) n fun y1 => k ((etNode (y1.1)), y1.2)
def norm_Line_O : Oracle E := withA (orac []) [(63, norm_text__norm_Line_1_A)]
theorem norm_Line_hO : OracleOk E norm_Line_O := withA_ok (orac_ok .nil .nil .nil .nil) (.cons norm_text__norm_Line_1_aok .nil)
def norm_Line_H : Hint E := {}
def norm_Line_C : norm_Line_S → Hd E
  | .e x0 => .e [⟨.api_Node, x0⟩]
theorem norm_Line_N : NatT norm_Line_t := fun τ k g n s => by cases s <;> simp only [norm_Line_t, eA]
theorem norm_Line_R : Runs (E := E) .fn norm_Line_O Tryz.f29 norm_Line_H norm_Line_C (encA (E := E) [.api_Node, .api_Errno]) norm_Line_t := ⟨fun s G => by cases s <;> kernel_rfl, norm_Line_N⟩
def norm_Line_m (x0 : Node) : Option (Node × Int) := mu norm_Line_t (.e x0)
def norm_Line_W : FnW E := fnG (E := E) [.api_Node] [.api_Node, .api_Errno] fun a => norm_Line_m a
theorem norm_Line_ok : FnOk E 29 norm_Line_W := Runs.fn (E := E) (ps := [.api_Node]) (rs := [.api_Node, .api_Errno]) norm_Line_R norm_Line_hO mix ⟨Tryz.func29, by kernel_rfl, by kernel_rfl⟩ (st := fun a => .e a) (fun _ => rfl) fun _ r h => ⟨r, h, rfl⟩
inductive norm_members_S where
  | e (x0 : Node) (x1 : Int)
def norm_members_t : Tree (Bool) norm_members_S := fun _ k _ _ s => match s with
  | .e x0 x1 => k (bif (x0.kind == x1) then (decide ((x0.kids.length : Int) ≤ (32 : Int))) else false)
def norm_members_O : Oracle E := orac []
theorem norm_members_hO : OracleOk E norm_members_O := orac_ok .nil .nil .nil .nil
def norm_members_H : Hint E := {}
def norm_members_C : norm_members_S → Hd E
  | .e x0 x1 => .e [⟨.api_Node, x0⟩, ⟨.int, x1⟩]
theorem norm_members_N : NatT norm_members_t := fun τ k g n s => by cases s <;> simp only [norm_members_t, eA]
theorem norm_members_R : Runs (E := E) .fn norm_members_O Tryz.f51 norm_members_H norm_members_C (encA (E := E) [.bool]) norm_members_t := ⟨fun s G => by cases s <;> kernel_rfl, norm_members_N⟩
def norm_members_m (x0 : Node) (x1 : Int) : Option (Bool) := mu norm_members_t (.e x0 x1)
def norm_members_W : FnW E := fnG (E := E) [.api_Node, .int] [.bool] fun a => norm_members_m a.1 a.2
theorem norm_members_ok : FnOk E 51 norm_members_W := Runs.fn (E := E) (ps := [.api_Node, .int]) (rs := [.bool]) norm_members_R norm_members_hO mix ⟨Tryz.func51, by kernel_rfl, by kernel_rfl⟩ (st := fun a => .e a.1 a.2) (fun _ => rfl) fun _ r h => ⟨r, h, rfl⟩
inductive norm_texts_S where
  | e (x0 : Node)
  | h0 (v0 : List (List UInt8)) (v1 : List Node) (v2 : Int) (v3 : Int) (v4 : Node)
def norm_texts_t : Tree ((List (List UInt8)) × Bool) norm_texts_S := fun _ k g n s => match s with
  | .e x0 => g (.h0 ([] : List (List UInt8)) x0.kids (x0.kids.length : Int) (0 : Int) x0)
  | .h0 v0 v1 v2 v3 v4 => bif (decide (v3 < v2)) then (ix v1 v3 n fun y1 => bif (y1.kind != (1 : Int)) then k (([] : List (List UInt8)), false) else (ck (decide ((v0.length + ([y1.text] : List (List UInt8)).length) * 16 ≤ maxBytes)) n (g (.h0 (v0 ++ ([y1.text] : List (List UInt8))) v1 v2 (w64 (v3 + (1 : Int))) v4)))) else (cl (norm_members_m (etNode v4) (2 : Int)) n fun y2 => k (v0, y2))
def norm_texts_O : Oracle E := orac [(51, norm_members_W)]
theorem norm_texts_hO : OracleOk E norm_texts_O := orac_ok (.cons norm_members_ok .nil) .nil .nil .nil
def norm_texts_H : Hint E := { live := [(0, [1, 4, 8, 9, 10])], nils := [(0, [(4, none, true, .str)])] }
def norm_texts_C : norm_texts_S → Hd E
  | .e x0 => .e [⟨.api_Node, x0⟩]
  | .h0 v0 v1 v2 v3 v4 => .h 0 ⟨26, [(1, .ptr 0 0), (4, .grow .str v0 1), (8, .d (.slice .api_Node v1)), (9, .d (.int .i64 v2)), (10, .d (.int .i64 v3))], [(0, .box [.d (.int .i64 v4.kind), .d (.str v4.text), .d (.slice .str v4.keys), .d (.slice .api_Node v4.kids)]), (1, .tail true)], 2⟩
theorem norm_texts_N : NatT norm_texts_t := fun τ k g n s => by cases s <;> simp only [norm_texts_t, eA]
theorem norm_texts_R : Runs (E := E) .fn norm_texts_O Tryz.f50 norm_texts_H norm_texts_C (encA (E := E) [.l_str, .bool]) norm_texts_t := ⟨fun s G => by cases s <;> kernel_rfl, norm_texts_N⟩
def norm_texts_m (x0 : Node) : Option ((List (List UInt8)) × Bool) := mu norm_texts_t (.e x0)
def norm_texts_W : FnW E := fnG (E := E) [.api_Node] [.l_str, .bool] fun a => norm_texts_m a
theorem norm_texts_ok : FnOk E 50 norm_texts_W := Runs.fn (E := E) (ps := [.api_Node]) (rs := [.l_str, .bool]) norm_texts_R norm_texts_hO mix ⟨Tryz.func50, by kernel_rfl, by kernel_rfl⟩ (st := fun a => .e a) (fun _ => rfl) fun _ r h => ⟨r, h, rfl⟩
inductive word_blank_S where
  | e (x0 : Int)
def word_blank_t : Tree (Bool) word_blank_S := fun _ k _ _ s => match s with
  | .e x0 => k (bif (x0 == (32 : Int)) then true else (x0 == (9 : Int)))
def word_blank_O : Oracle E := orac []
theorem word_blank_hO : OracleOk E word_blank_O := orac_ok .nil .nil .nil .nil
def word_blank_H : Hint E := {}
def word_blank_C : word_blank_S → Hd E
  | .e x0 => .e [⟨.byte, x0⟩]
theorem word_blank_N : NatT word_blank_t := fun τ k g n s => by cases s <;> simp only [word_blank_t, eA]
theorem word_blank_R : Runs (E := E) .fn word_blank_O Tryz.f104 word_blank_H word_blank_C (encA (E := E) [.bool]) word_blank_t := ⟨fun s G => by cases s <;> kernel_rfl, word_blank_N⟩
def word_blank_m (x0 : Int) : Option (Bool) := mu word_blank_t (.e x0)
def word_blank_W : FnW E := fnG (E := E) [.byte] [.bool] fun a => word_blank_m a
theorem word_blank_ok : FnOk E 104 word_blank_W := Runs.fn (E := E) (ps := [.byte]) (rs := [.bool]) word_blank_R word_blank_hO mix ⟨Tryz.func104, by kernel_rfl, by kernel_rfl⟩ (st := fun a => .e a) (fun _ => rfl) fun _ r h => ⟨r, h, rfl⟩
inductive word_Split_S where
  | e (x0 : List UInt8)
  | h100 (v0 : List (List UInt8)) (v1 : List Int) (v2 : Bool)
  | h101 (v0 : List UInt8) (v1 : List (List UInt8)) (v2 : List Int) (v3 : Int) (v4 : Bool)
  | h102 (v0 : List UInt8) (v1 : List (List UInt8)) (v2 : List Int) (v3 : Int) (v4 : Bool)
  | h103 (v0 : List UInt8) (v1 : List (List UInt8)) (v2 : List Int) (v3 : Int) (v4 : Bool)
def word_Split_t : Tree ((List (List UInt8)) × Int) word_Split_S := fun _ k g n s => match s with
  | .e x0 => bif ((0 : Int) == (x0.length : Int)) then g (.h100 ([] : List (List UInt8)) ([] : List Int) false) else (ixb x0 (0 : Int) n fun y1 => cl (word_blank_m y1) n fun y2 => bif y2 then g (.h101 x0 ([] : List (List UInt8)) ([] : List Int) (1 : Int) false) else (ck (inb x0 (0 : Int)) n (bif (y1 == (39 : Int)) then g (.h102 x0 ([] : List (List UInt8)) ([] : List Int) (1 : Int) true) else (ck (inb x0 (0 : Int)) n (bif (y1 == (34 : Int)) then g (.h103 x0 ([] : List (List UInt8)) ([] : List Int) (1 : Int) true) else (ck (inb x0 (0 : Int)) n (bif (y1 == (92 : Int)) then (bif ((1 : Int) == (x0.length : Int)) then k (([] : List (List UInt8)), (3 : Int)) else (ixb x0 (1 : Int) n fun y6 => ck (decide (([y6] : List Int).length * 1 ≤ maxBytes)) n (g (.h101 x0 ([] : List (List UInt8)) ([y6] : List Int) (2 : Int) true)))) else (ck (inb x0 (0 : Int)) n (ck (decide (([y1] : List Int).length * 1 ≤ maxBytes)) n (g (.h101 x0 ([] : List (List UInt8)) ([y1] : List Int) (1 : Int) true)))))))))))
  | .h100 v0 v1 v2 => bif v2 then (ck (decide ((v0.length + ([(List.map (fun y => UInt8.ofNat (Int.toNat y)) v1)] : List (List UInt8)).length) * 16 ≤ maxBytes)) n (bif (decide ((32 : Int) < ((v0 ++ ([(List.map (fun y => UInt8.ofNat (Int.toNat y)) v1)] : List (List UInt8))).length : Int))) then k (([] : List (List UInt8)), (9 : Int)) else k ((v0 ++ ([(List.map (fun y => UInt8.ofNat (Int.toNat y)) v1)] : List (List UInt8))), (0 : Int)))) else (bif (decide ((32 : Int) < (v0.length : Int))) then k (([] : List (List UInt8)), (9 : Int)) else k (v0, (0 : Int)))
  | .h101 v0 v1 v2 v3 v4 => bif (v3 == (v0.length : Int)) then g (.h100 v1 v2 v4) else (ixb v0 v3 n fun y1 => cl (word_blank_m y1) n fun y2 => bif y2 then (bif v4 then (ck (decide ((v1.length + ([(List.map (fun y => UInt8.ofNat (Int.toNat y)) v2)] : List (List UInt8)).length) * 16 ≤ maxBytes)) n (g (.h101 v0 (v1 ++ ([(List.map (fun y => UInt8.ofNat (Int.toNat y)) v2)] : List (List UInt8))) ([] : List Int) (w64 (v3 + (1 : Int))) false))) else g (.h101 v0 v1 v2 (w64 (v3 + (1 : Int))) v4)) else (ck (inb v0 v3) n (bif (y1 == (39 : Int)) then g (.h102 v0 v1 v2 (w64 (v3 + (1 : Int))) true) else (ck (inb v0 v3) n (bif (y1 == (34 : Int)) then g (.h103 v0 v1 v2 (w64 (v3 + (1 : Int))) true) else (ck (inb v0 v3) n (bif (y1 == (92 : Int)) then (bif ((w64 (v3 + (1 : Int))) == (v0.length : Int)) then k (([] : List (List UInt8)), (3 : Int)) else (ixb v0 (w64 (v3 + (1 : Int))) n fun y6 => ck (decide ((v2.length + ([y6] : List Int).length) * 1 ≤ maxBytes)) n (g (.h101 v0 v1 (v2 ++ ([y6] : List Int)) (w64 ((w64 (v3 + (1 : Int))) + (1 : Int))) true)))) else (ck (inb v0 v3) n (ck (decide ((v2.length + ([y1] : List Int).length) * 1 ≤ maxBytes)) n (g (.h101 v0 v1 (v2 ++ ([y1] : List Int)) (w64 (v3 + (1 : Int))) true)))))))))))
  | .h102 v0 v1 v2 v3 v4 => ck (cutOk v0 v3 (v0.length : Int)) n (bif (decide (0 ≤ (ixbV (cut v0 v3 (v0.length : Int)) (39 : Int)))) then (ck (cutOk v0 v3 (w64 (v3 + (ixbV (cut v0 v3 (v0.length : Int)) (39 : Int))))) n (ck (decide ((v2.length + (List.map (fun b : UInt8 => ((b.toNat : Nat) : Int)) (cut v0 v3 (w64 (v3 + (ixbV (cut v0 v3 (v0.length : Int)) (39 : Int)))))).length) * 1 ≤ maxBytes)) n (g (.h101 v0 v1 (v2 ++ (List.map (fun b : UInt8 => ((b.toNat : Nat) : Int)) (cut v0 v3 (w64 (v3 + (ixbV (cut v0 v3 (v0.length : Int)) (39 : Int))))))) (w64 (v3 + (w64 ((ixbV (cut v0 v3 (v0.length : Int)) (39 : Int)) + (1 : Int))))) v4)))) else k (([] : List (List UInt8)), (3 : Int)))
  | .h103 v0 v1 v2 v3 v4 => ck ((decide (0 ≤ v3) && decide (v3 < (v0.length : Int))) || !((!(v3 == (v0.length : Int))) && ((w64 (v3 + (1 : Int))) == (v0.length : Int)))) n (bif (bif (v3 == (v0.length : Int)) then true else (bif ((w64 (v3 + (1 : Int))) == (v0.length : Int)) then ((((List.getD v0 (Int.toNat v3) 0).toNat : Nat) : Int) == (92 : Int)) else false)) then k (([] : List (List UInt8)), (3 : Int)) else (ixb v0 v3 n fun y1 => bif (y1 == (34 : Int)) then g (.h101 v0 v1 v2 (w64 (v3 + (1 : Int))) v4) else (ck (inb v0 v3) n (bif (y1 == (92 : Int)) then (ixb v0 (w64 (v3 + (1 : Int))) n fun y3 => ck ((decide (0 ≤ (w64 (v3 + (1 : Int)))) && decide ((w64 (v3 + (1 : Int))) < (v0.length : Int))) || !(y3 != (34 : Int))) n (bif (bif (y3 != (34 : Int)) then (y3 != (92 : Int)) else false) then (ck (decide ((v2.length + ([(92 : Int)] : List Int).length) * 1 ≤ maxBytes)) n (ck (inb v0 (w64 (v3 + (1 : Int)))) n (ck (decide (((v2 ++ ([(92 : Int)] : List Int)).length + ([y3] : List Int).length) * 1 ≤ maxBytes)) n (g (.h103 v0 v1 ((v2 ++ ([(92 : Int)] : List Int)) ++ ([y3] : List Int)) (w64 ((w64 (v3 + (1 : Int))) + (1 : Int))) v4))))) else (ck (inb v0 (w64 (v3 + (1 : Int)))) n (ck (decide ((v2.length + ([y3] : List Int).length) * 1 ≤ maxBytes)) n (g (.h103 v0 v1 (v2 ++ ([y3] : List Int)) (w64 ((w64 (v3 + (1 : Int))) + (1 : Int))) v4)))))) else (ck (inb v0 v3) n (ck (decide ((v2.length + ([y1] : List Int).length) * 1 ≤ maxBytes)) n (g (.h103 v0 v1 (v2 ++ ([y1] : List Int)) (w64 (v3 + (1 : Int))) v4))))))))
def word_Split_O : Oracle E := orac [(104, word_blank_W), (105, sidxb_W)]
theorem word_Split_hO : OracleOk E word_Split_O := orac_ok (.cons word_blank_ok (.cons sidxb_ok .nil)) .nil .nil .nil
def word_Split_H : Hint E := { live := [(100, [4, 5, 7]), (101, [0, 4, 5, 6, 7]), (102, [0, 4, 5, 6, 7]), (103, [0, 4, 5, 6, 7])], nils := [(100, [(5, none, true, .byte), (4, none, true, .str)]), (101, [(5, none, true, .byte), (4, none, true, .str)]), (102, [(4, none, true, .str), (5, none, true, .byte)]), (103, [(4, none, true, .str), (5, none, true, .byte)])] }
def word_Split_C : word_Split_S → Hd E
  | .e x0 => .e [⟨.str, x0⟩]
  | .h100 v0 v1 v2 => .h 100 ⟨141, [(4, .grow .str v0 0), (5, .grow .byte v1 1), (7, .d (.bool v2))], [(0, .tail true), (1, .tail true)], 2⟩
  | .h101 v0 v1 v2 v3 v4 => .h 101 ⟨141, [(0, .d (.str v0)), (4, .grow .str v1 0), (5, .grow .byte v2 1), (6, .d (.int .i64 v3)), (7, .d (.bool v4))], [(0, .tail true), (1, .tail true)], 2⟩
  | .h102 v0 v1 v2 v3 v4 => .h 102 ⟨141, [(0, .d (.str v0)), (4, .grow .str v1 0), (5, .grow .byte v2 1), (6, .d (.int .i64 v3)), (7, .d (.bool v4))], [(0, .tail true), (1, .tail true)], 2⟩
  | .h103 v0 v1 v2 v3 v4 => .h 103 ⟨141, [(0, .d (.str v0)), (4, .grow .str v1 0), (5, .grow .byte v2 1), (6, .d (.int .i64 v3)), (7, .d (.bool v4))], [(0, .tail true), (1, .tail true)], 2⟩
theorem word_Split_N : NatT word_Split_t := fun τ k g n s => by cases s <;> simp only [word_Split_t, eA]
theorem word_Split_R : Runs (E := E) .fn word_Split_O Tryz.f65 word_Split_H word_Split_C (encA (E := E) [.l_str, .api_Errno]) word_Split_t := ⟨fun s G => by cases s <;> kernel_rfl, word_Split_N⟩
def word_Split_m (x0 : List UInt8) : Option ((List (List UInt8)) × Int) := mu word_Split_t (.e x0)
def word_Split_W : FnW E := fnG (E := E) [.str] [.l_str, .api_Errno] fun a => word_Split_m a
theorem word_Split_ok : FnOk E 65 word_Split_W := Runs.fn (E := E) (ps := [.str]) (rs := [.l_str, .api_Errno]) word_Split_R word_Split_hO mix ⟨Tryz.func65, by kernel_rfl, by kernel_rfl⟩ (st := fun a => .e a) (fun _ => rfl) fun _ r h => ⟨r, h, rfl⟩
inductive norm_row_S where
  | e (x0 : List (List UInt8))
  | h0 (v0 : List (List UInt8)) (v1 : Int) (v2 : Int) (v3 : Int) (v4 : List UInt8) (v5 : Int) (v6 : List UInt8) (v7 : List Node)
def norm_row_t : Tree (Node) norm_row_S := fun _ k g n s => match s with
  | .e x0 => g (.h0 x0 (x0.length : Int) (0 : Int) (0 : Int) ([] : List UInt8) (2 : Int) ([] : List UInt8) ([] : List Node))
  | .h0 v0 v1 v2 v3 v4 v5 v6 v7 => bif (decide (v2 < v1)) then (ix v0 v2 n fun y1 => ck (decide ((v7.length + ([(txt1 y1)] : List Node).length) * 72 ≤ maxBytes)) n (g (.h0 v0 v1 (w64 (v2 + (1 : Int))) v3 v4 v5 v6 (v7 ++ ([(txt1 y1)] : List Node))))) else k (⟨v5, v6, ([] : List (List UInt8)), v7⟩ : Node)
def norm_row_O : Oracle E := orac [(70, ntext_W)]
theorem norm_row_hO : OracleOk E norm_row_O := orac_ok (.cons ntext_ok .nil) .nil .nil .nil
def norm_row_H : Hint E := { live := [(0, [2, 3, 7, 8, 9])], nils := [(0, [(3, some 3, true, .api_Node)])] }
def norm_row_C : norm_row_S → Hd E
  | .e x0 => .e [⟨.l_str, x0⟩]
  | .h0 v0 v1 v2 v3 v4 v5 v6 v7 => .h 0 ⟨22, [(2, .ptr 0 0), (3, .ptr 1 0), (7, .d (.slice .str v0)), (8, .d (.int .i64 v1)), (9, .d (.int .i64 v2))], [(0, .box [.d (.int .i64 v3), .d (.str v4), .d (.raw (.slice none 0 0)), .d (.raw (.slice none 0 0))]), (1, .box [.d (.int .i64 v5), .d (.str v6), .d (.raw (.slice none 0 0)), .grow .api_Node v7 2]), (2, .tail true)], 3⟩
theorem norm_row_N : NatT norm_row_t := fun τ k g n s => by cases s <;> simp only [norm_row_t, eA]
theorem norm_row_R : Runs (E := E) .fn norm_row_O Tryz.f67 norm_row_H norm_row_C (encA (E := E) [.api_Node]) norm_row_t := ⟨fun s G => by cases s <;> kernel_rfl, norm_row_N⟩
def norm_row_m (x0 : List (List UInt8)) : Option (Node) := mu norm_row_t (.e x0)
def norm_row_W : FnW E := fnG (E := E) [.l_str] [.api_Node] fun a => norm_row_m a
theorem norm_row_ok : FnOk E 67 norm_row_W := Runs.fn (E := E) (ps := [.l_str]) (rs := [.api_Node]) norm_row_R norm_row_hO mix ⟨Tryz.func67, by kernel_rfl, by kernel_rfl⟩ (st := fun a => .e a) (fun _ => rfl) fun _ r h => ⟨r, h, rfl⟩
inductive norm_Words_S where
  | e (x0 : Node)
def norm_Words_t : Tree (Node × Int) norm_Words_S := fun _ k _ n s => match s with
  | .e x0 => cl (norm_texts_m (etNode x0)) n fun y1 => bif (x0.kind == (1 : Int)) then (cl (word_Split_m x0.text) n fun y2 => bif (!(y2.2 == (0 : Int))) then (cl norm_none_m n fun y3 => k ((etNode (y3.1)), y3.2)) else (cl (norm_row_m (y2.1)) n fun y4 => k ((etNode y4), (0 : Int)))) else (bif (!y1.2) then (cl norm_none_m n fun y5 => k ((etNode (y5.1)), y5.2)) else (cl (norm_row_m (y1.1)) n fun y6 => k ((etNode y6), (0 : Int))))
def norm_Words_O : Oracle E := orac [(66, norm_none_W), (67, norm_row_W), (50, norm_texts_W), (65, word_Split_W)]
theorem norm_Words_hO : OracleOk E norm_Words_O := orac_ok (.cons norm_none_ok (.cons norm_row_ok (.cons norm_texts_ok (.cons word_Split_ok .nil)))) .nil .nil .nil
def norm_Words_H : Hint E := {}
def norm_Words_C : norm_Words_S → Hd E
  | .e x0 => .e [⟨.api_Node, x0⟩]
theorem norm_Words_N : NatT norm_Words_t := fun τ k g n s => by cases s <;> simp only [norm_Words_t, eA]
theorem norm_Words_R : Runs (E := E) .fn norm_Words_O Tryz.f30 norm_Words_H norm_Words_C (encA (E := E) [.api_Node, .api_Errno]) norm_Words_t := ⟨fun s G => by cases s <;> kernel_rfl, norm_Words_N⟩
def norm_Words_m (x0 : Node) : Option (Node × Int) := mu norm_Words_t (.e x0)
def norm_Words_W : FnW E := fnG (E := E) [.api_Node] [.api_Node, .api_Errno] fun a => norm_Words_m a
theorem norm_Words_ok : FnOk E 30 norm_Words_W := Runs.fn (E := E) (ps := [.api_Node]) (rs := [.api_Node, .api_Errno]) norm_Words_R norm_Words_hO mix ⟨Tryz.func30, by kernel_rfl, by kernel_rfl⟩ (st := fun a => .e a) (fun _ => rfl) fun _ r h => ⟨r, h, rfl⟩
inductive name_Variable_1_S where
  | e (x0 : Int)
def name_Variable_1_t : Tree (Bool) name_Variable_1_S := fun _ k _ n s => match s with
  | .e x0 => cl (name_letter_m x0) n fun y1 => k (bif y1 then true else (x0 == (95 : Int)))
def name_Variable_1_O : Oracle E := orac [(98, name_letter_W)]
theorem name_Variable_1_hO : OracleOk E name_Variable_1_O := orac_ok (.cons name_letter_ok .nil) .nil .nil .nil
def name_Variable_1_H : Hint E := {}
def name_Variable_1_C : name_Variable_1_S → Hd E
  | .e x0 => .e [⟨.byte, x0⟩]
theorem name_Variable_1_N : NatT name_Variable_1_t := fun τ k g n s => by cases s <;> simp only [name_Variable_1_t, eA]
theorem name_Variable_1_R : Runs (E := E) .fn name_Variable_1_O Tryz.f106 name_Variable_1_H name_Variable_1_C (encA (E := E) [.bool]) name_Variable_1_t := ⟨fun s G => by cases s <;> kernel_rfl, name_Variable_1_N⟩
def name_Variable_1_m (x0 : Int) : Option (Bool) := mu name_Variable_1_t (.e x0)
def name_Variable_1_W : FnW E := fnG (E := E) [.byte] [.bool] fun a => name_Variable_1_m a
theorem name_Variable_1_ok : FnOk E 106 name_Variable_1_W := Runs.fn (E := E) (ps := [.byte]) (rs := [.bool]) name_Variable_1_R name_Variable_1_hO mix ⟨Tryz.func106, by kernel_rfl, by kernel_rfl⟩ (st := fun a => .e a) (fun _ => rfl) fun _ r h => ⟨r, h, rfl⟩
inductive name_of__name_Variable_1__name_Variable_2_S where
  | e (x0 : List UInt8)
  | h0 (v0 : List UInt8) (v1 : Int)
def name_of__name_Variable_1__name_Variable_2_t : Tree (Bool) name_of__name_Variable_1__name_Variable_2_S := fun _ k g n s => match s with
  | .e x0 => ck ((decide (0 ≤ (0 : Int)) && decide ((0 : Int) < (x0.length : Int))) || !(!(bif (decide ((x0.length : Int) < (1 : Int))) then true else (decide ((24 : Int) < (x0.length : Int)))))) n (ck (((name_Variable_1_m (((List.getD x0 (Int.toNat (0 : Int)) 0).toNat : Nat) : Int)).isSome) || !(!(bif (decide ((x0.length : Int) < (1 : Int))) then true else (decide ((24 : Int) < (x0.length : Int)))))) n (bif (bif (bif (decide ((x0.length : Int) < (1 : Int))) then true else (decide ((24 : Int) < (x0.length : Int)))) then true else (!(gv (name_Variable_1_m (((List.getD x0 (Int.toNat (0 : Int)) 0).toNat : Nat) : Int))))) then k false else g (.h0 x0 (1 : Int))))
  | .h0 v0 v1 => bif (decide (v1 < (v0.length : Int))) then (ixb v0 v1 n fun y1 => cl (name_letter_m y1) n fun y2 => ck (((name_number_m y1).isSome) || !(!y2)) n (bif (!(bif (bif y2 then true else (gv (name_number_m y1))) then true else (y1 == (95 : Int)))) then k false else g (.h0 v0 (w64 (v1 + (1 : Int)))))) else k true
def name_of__name_Variable_1__name_Variable_2_O : Oracle E := withI (orac [(106, name_Variable_1_W), (98, name_letter_W), (48, name_number_W)]) [(107, Tryz.f107)]
theorem name_of__name_Variable_1__name_Variable_2_hO : OracleOk E name_of__name_Variable_1__name_Variable_2_O := withI_ok (orac_ok (.cons name_Variable_1_ok (.cons name_letter_ok (.cons name_number_ok .nil))) .nil .nil .nil) mix (.cons (f := 107) (fn := Tryz.f107) (by kernel_rfl) (by kernel_rfl) (by kernel_rfl) .nil)
def name_of__name_Variable_1__name_Variable_2_H : Hint E := { live := [(0, [0, 2, 7])] }
def name_of__name_Variable_1__name_Variable_2_C : name_of__name_Variable_1__name_Variable_2_S → Hd E
  | .e x0 => .c [.v ⟨.str, x0⟩, .c 106 [] [], .c 107 [] []]
  | .h0 v0 v1 => .h 0 ⟨35, [(0, .d (.str v0)), (2, .d (.raw (.func (.func 107) #[] #[]))), (7, .d (.int .i64 v1))], [], 0⟩
theorem name_of__name_Variable_1__name_Variable_2_N : NatT name_of__name_Variable_1__name_Variable_2_t := fun τ k g n s => by cases s <;> simp only [name_of__name_Variable_1__name_Variable_2_t, eA]
theorem name_of__name_Variable_1__name_Variable_2_R : Runs (E := E) .fn name_of__name_Variable_1__name_Variable_2_O Tryz.f45 name_of__name_Variable_1__name_Variable_2_H name_of__name_Variable_1__name_Variable_2_C (encA (E := E) [.bool]) name_of__name_Variable_1__name_Variable_2_t := ⟨fun s G => by cases s <;> kernel_rfl, name_of__name_Variable_1__name_Variable_2_N⟩
def name_of__name_Variable_1__name_Variable_2_m (x0 : List UInt8) : Option (Bool) := mu name_of__name_Variable_1__name_Variable_2_t (.e x0)
def name_of__name_Variable_1__name_Variable_2_A : FnP E := fnP (E := E) [.v .str, .c 106 [] [], .c 107 [] []] [.bool] fun a => name_of__name_Variable_1__name_Variable_2_m a
theorem name_of__name_Variable_1__name_Variable_2_aok : AOk E 45 name_of__name_Variable_1__name_Variable_2_A := Runs.cl (E := E) (sh := [.v .str, .c 106 [] [], .c 107 [] []]) (rs := [.bool]) name_of__name_Variable_1__name_Variable_2_R name_of__name_Variable_1__name_Variable_2_hO mix ⟨Tryz.func45, by kernel_rfl, by kernel_rfl⟩ (st := fun a => .e a) (fun _ => rfl) fun _ r h => ⟨r, h, rfl⟩
inductive name_Variable_S where
  | e (x0 : List UInt8)
def name_Variable_t : Tree (Bool) name_Variable_S := fun _ k _ n s => match s with
  | .e x0 => cl (name_of__name_Variable_1__name_Variable_2_m x0) n fun y1 => k y1
def name_Variable_O : Oracle E := withA (orac []) [(45, name_of__name_Variable_1__name_Variable_2_A)]
theorem name_Variable_hO : OracleOk E name_Variable_O := withA_ok (orac_ok .nil .nil .nil .nil) (.cons name_of__name_Variable_1__name_Variable_2_aok .nil)
def name_Variable_H : Hint E := {}
def name_Variable_C : name_Variable_S → Hd E
  | .e x0 => .e [⟨.str, x0⟩]
theorem name_Variable_N : NatT name_Variable_t := fun τ k g n s => by cases s <;> simp only [name_Variable_t, eA]
theorem name_Variable_R : Runs (E := E) .fn name_Variable_O Tryz.f68 name_Variable_H name_Variable_C (encA (E := E) [.bool]) name_Variable_t := ⟨fun s G => by cases s <;> kernel_rfl, name_Variable_N⟩
def name_Variable_m (x0 : List UInt8) : Option (Bool) := mu name_Variable_t (.e x0)
def name_Variable_W : FnW E := fnG (E := E) [.str] [.bool] fun a => name_Variable_m a
theorem name_Variable_ok : FnOk E 68 name_Variable_W := Runs.fn (E := E) (ps := [.str]) (rs := [.bool]) name_Variable_R name_Variable_hO mix ⟨Tryz.func68, by kernel_rfl, by kernel_rfl⟩ (st := fun a => .e a) (fun _ => rfl) fun _ r h => ⟨r, h, rfl⟩
inductive norm_form_fail_S where
  | e (x0 : form) (x1 : Bool)
def norm_form_fail_t : Tree (form × Bool) norm_form_fail_S := fun _ k _ _ s => match s with
  | .e x0 x1 => k ((⟨(etNode x0.n), (bif x0.bad then true else x1)⟩ : form), x1)
def norm_form_fail_O : Oracle E := orac []
theorem norm_form_fail_hO : OracleOk E norm_form_fail_O := orac_ok .nil .nil .nil .nil
def norm_form_fail_H : Hint E := { own := 1 }
def norm_form_fail_C : norm_form_fail_S → Hd E
  | .e x0 x1 => .e [⟨.norm_form, x0⟩, ⟨.bool, x1⟩]
theorem norm_form_fail_N : NatT norm_form_fail_t := fun τ k g n s => by cases s <;> simp only [norm_form_fail_t, eA]
theorem norm_form_fail_R : Runs (E := E) (.bx .norm_form) norm_form_fail_O Tryz.f52 norm_form_fail_H norm_form_fail_C (fun r => ⟨.norm_form, r.1⟩ :: encA (E := E) [.bool] r.2) norm_form_fail_t := ⟨fun s G => by cases s <;> kernel_rfl, norm_form_fail_N⟩
def norm_form_fail_m (x0 : form) (x1 : Bool) : Option (form × Bool) := mu norm_form_fail_t (.e x0 x1)
def norm_form_fail_B : FnB E := bxG (E := E) .norm_form [.bool] [.bool] fun x a => norm_form_fail_m x a
theorem norm_form_fail_bok : BoxOk E 52 norm_form_fail_B := Runs.bx (E := E) (ps := [.bool]) (rs := [.bool]) norm_form_fail_R norm_form_fail_hO mix (by decide) ⟨Tryz.func52, by kernel_rfl, by kernel_rfl⟩ (st := fun x a => .e x a) (fun _ _ => rfl) fun _ _ r h => ⟨r, h, rfl⟩
inductive norm_form_put_S where
  | e (x0 : form) (x1 : List UInt8) (x2 : Node)
def norm_form_put_t : Tree (form × Unit) norm_form_put_S := fun _ k _ n s => match s with
  | .e x0 x1 x2 => ck (okWp (etNode x0.n) x1 (etNode x2)) n (k ((⟨(etNode (withP (etNode x0.n) x1 (etNode x2))), x0.bad⟩ : form), ()))
def norm_form_put_O : Oracle E := orac [(26, nwith_W)]
theorem norm_form_put_hO : OracleOk E norm_form_put_O := orac_ok (.cons nwith_ok .nil) .nil .nil .nil
def norm_form_put_H : Hint E := { own := 1 }
def norm_form_put_C : norm_form_put_S → Hd E
  | .e x0 x1 x2 => .e [⟨.norm_form, x0⟩, ⟨.str, x1⟩, ⟨.api_Node, x2⟩]
theorem norm_form_put_N : NatT norm_form_put_t := fun τ k g n s => by cases s <;> simp only [norm_form_put_t, eA]
theorem norm_form_put_R : Runs (E := E) (.bx .norm_form) norm_form_put_O Tryz.f53 norm_form_put_H norm_form_put_C (fun r => ⟨.norm_form, r.1⟩ :: encA (E := E) [] r.2) norm_form_put_t := ⟨fun s G => by cases s <;> kernel_rfl, norm_form_put_N⟩
def norm_form_put_m (x0 : form) (x1 : List UInt8) (x2 : Node) : Option (form × Unit) := mu norm_form_put_t (.e x0 x1 x2)
def norm_form_put_B : FnB E := bxG (E := E) .norm_form [.str, .api_Node] [] fun x a => norm_form_put_m x a.1 a.2
theorem norm_form_put_bok : BoxOk E 53 norm_form_put_B := Runs.bx (E := E) (ps := [.str, .api_Node]) (rs := []) norm_form_put_R norm_form_put_hO mix (by decide) ⟨Tryz.func53, by kernel_rfl, by kernel_rfl⟩ (st := fun x a => .e x a.1 a.2) (fun _ _ => rfl) fun _ _ r h => ⟨r, h, rfl⟩
inductive norm_form_done_S where
  | e (x0 : form)
def norm_form_done_t : Tree (form × Node × Int) norm_form_done_S := fun _ k _ n s => match s with
  | .e x0 => bif (bif x0.bad then true else (decide ((32 : Int) < (x0.n.keys.length : Int)))) then (cl norm_none_m n fun y1 => k ((⟨(etNode x0.n), x0.bad⟩ : form), (etNode (y1.1)), y1.2)) else (ck ((wg 10000 1000) (⟨(3 : Int), x0.n.text, x0.n.keys, x0.n.kids⟩ : Node)) n (k ((⟨(⟨(3 : Int), x0.n.text, x0.n.keys, x0.n.kids⟩ : Node), x0.bad⟩ : form), (etNode ((sortP 1000) (⟨(3 : Int), x0.n.text, x0.n.keys, x0.n.kids⟩ : Node))), (0 : Int))))
def norm_form_done_O : Oracle E := orac [(27, ndsorted_W 1000), (66, norm_none_W)]
theorem norm_form_done_hO : OracleOk E norm_form_done_O := orac_ok (.cons (ndsorted_ok 1000) (.cons norm_none_ok .nil)) .nil .nil .nil
def norm_form_done_H : Hint E := { own := 1 }
def norm_form_done_C : norm_form_done_S → Hd E
  | .e x0 => .e [⟨.norm_form, x0⟩]
theorem norm_form_done_N : NatT norm_form_done_t := fun τ k g n s => by cases s <;> simp only [norm_form_done_t, eA]
theorem norm_form_done_R : Runs (E := E) (.bx .norm_form) norm_form_done_O Tryz.f54 norm_form_done_H norm_form_done_C (fun r => ⟨.norm_form, r.1⟩ :: encA (E := E) [.api_Node, .api_Errno] r.2) norm_form_done_t := ⟨fun s G => by cases s <;> kernel_rfl, norm_form_done_N⟩
def norm_form_done_m (x0 : form) : Option (form × Node × Int) := mu norm_form_done_t (.e x0)
def norm_form_done_B : FnB E := bxG (E := E) .norm_form [] [.api_Node, .api_Errno] fun x _ => norm_form_done_m x
theorem norm_form_done_bok : BoxOk E 54 norm_form_done_B := Runs.bx (E := E) (ps := []) (rs := [.api_Node, .api_Errno]) norm_form_done_R norm_form_done_hO mix (by decide) ⟨Tryz.func54, by kernel_rfl, by kernel_rfl⟩ (st := fun x _ => .e x ) (fun _ _ => rfl) fun _ _ r h => ⟨r, h, rfl⟩
inductive norm_Pairs_S where
  | e (x0 : Node) (x1 : Bool)
  | h0_43 (v0 : List (List UInt8)) (v1 : Int) (v2 : Int) (v3 : Int) (v4 : List UInt8) (v5 : form)
  | h0_68 (v0 : List (List UInt8)) (v1 : Int) (v2 : Int) (v3 : Int) (v4 : List UInt8) (v5 : form)
  | h1_43 (v0 : List (List UInt8)) (v1 : Int) (v2 : Int) (v3 : Node) (v4 : Int) (v5 : List UInt8) (v6 : form)
  | h1_68 (v0 : List (List UInt8)) (v1 : Int) (v2 : Int) (v3 : Node) (v4 : Int) (v5 : List UInt8) (v6 : form)
def norm_Pairs_t : Tree (Node × Int) norm_Pairs_S := fun _ k g n s => match s with
  | .e x0 x1 => bif x1 then (cl (norm_texts_m (etNode x0)) n fun y1 => bif y1.2 then g (.h0_68 (y1.1) ((y1.1).length : Int) (0 : Int) (0 : Int) ([] : List UInt8) (⟨(⟨(0 : Int), ([] : List UInt8), ([] : List (List UInt8)), ([] : List Node)⟩ : Node), false⟩ : form)) else (cl (norm_members_m (etNode x0) (3 : Int)) n fun y2 => bif (!y2) then (cl norm_none_m n fun y3 => k ((etNode (y3.1)), y3.2)) else g (.h1_68 x0.keys (x0.keys.length : Int) (0 : Int) x0 (0 : Int) ([] : List UInt8) (⟨(⟨(0 : Int), ([] : List UInt8), ([] : List (List UInt8)), ([] : List Node)⟩ : Node), false⟩ : form)))) else (cl (norm_texts_m (etNode x0)) n fun y4 => bif y4.2 then g (.h0_43 (y4.1) ((y4.1).length : Int) (0 : Int) (0 : Int) ([] : List UInt8) (⟨(⟨(0 : Int), ([] : List UInt8), ([] : List (List UInt8)), ([] : List Node)⟩ : Node), false⟩ : form)) else (cl (norm_members_m (etNode x0) (3 : Int)) n fun y5 => bif (!y5) then (cl norm_none_m n fun y6 => k ((etNode (y6.1)), y6.2)) else g (.h1_43 x0.keys (x0.keys.length : Int) (0 : Int) x0 (0 : Int) ([] : List UInt8) (⟨(⟨(0 : Int), ([] : List UInt8), ([] : List (List UInt8)), ([] : List Node)⟩ : Node), false⟩ : form))))
  | .h0_43 v0 v1 v2 v3 v4 v5 => bif (decide (v2 < v1)) then (ix v0 v2 n fun y1 => ck (okIx y1 ([61] : List UInt8)) n (ck ((fun n _ => fit n) (etNode v5.n) (cutA y1 ([61] : List UInt8))) n (ck (((name_Service_m (cutA y1 ([61] : List UInt8))).isSome) || !(!(getB (etNode v5.n) (cutA y1 ([61] : List UInt8))))) n (cl (norm_form_fail_m (⟨(etNode v5.n), v5.bad⟩ : form) (bif (getB (etNode v5.n) (cutA y1 ([61] : List UInt8))) then true else (!(gv (name_Service_m (cutA y1 ([61] : List UInt8))))))) n fun y2 => cl (norm_form_put_m (⟨(etNode ((y2.1).n)), (y2.1).bad⟩ : form) (cutA y1 ([61] : List UInt8)) (txt1 (cutB y1 ([61] : List UInt8)))) n fun y3 => g (.h0_43 v0 v1 (w64 (v2 + (1 : Int))) v3 v4 (⟨(etNode ((y3.1).n)), (y3.1).bad⟩ : form)))))) else (cl (norm_form_done_m (⟨(etNode v5.n), v5.bad⟩ : form)) n fun y4 => k ((etNode (y4.2.1)), y4.2.2))
  | .h0_68 v0 v1 v2 v3 v4 v5 => bif (decide (v2 < v1)) then (ix v0 v2 n fun y1 => ck (okIx y1 ([61] : List UInt8)) n (ck ((fun n _ => fit n) (etNode v5.n) (cutA y1 ([61] : List UInt8))) n (ck (((name_Variable_m (cutA y1 ([61] : List UInt8))).isSome) || !(!(getB (etNode v5.n) (cutA y1 ([61] : List UInt8))))) n (cl (norm_form_fail_m (⟨(etNode v5.n), v5.bad⟩ : form) (bif (getB (etNode v5.n) (cutA y1 ([61] : List UInt8))) then true else (!(gv (name_Variable_m (cutA y1 ([61] : List UInt8))))))) n fun y2 => cl (norm_form_put_m (⟨(etNode ((y2.1).n)), (y2.1).bad⟩ : form) (cutA y1 ([61] : List UInt8)) (txt1 (cutB y1 ([61] : List UInt8)))) n fun y3 => g (.h0_68 v0 v1 (w64 (v2 + (1 : Int))) v3 v4 (⟨(etNode ((y3.1).n)), (y3.1).bad⟩ : form)))))) else (cl (norm_form_done_m (⟨(etNode v5.n), v5.bad⟩ : form)) n fun y4 => k ((etNode (y4.2.1)), y4.2.2))
  | .h1_43 v0 v1 v2 v3 v4 v5 v6 => bif (decide (v2 < v1)) then (ix v0 v2 n fun y1 => ix v3.kids v2 n fun y2 => ck (((name_Service_m y1).isSome) || !(!(decide ((1 : Int) < y2.kind)))) n (cl (norm_form_fail_m (⟨(etNode v6.n), v6.bad⟩ : form) (bif (decide ((1 : Int) < y2.kind)) then true else (!(gv (name_Service_m y1))))) n fun y3 => cl (norm_form_put_m (⟨(etNode ((y3.1).n)), (y3.1).bad⟩ : form) y1 (txt1 (y2.text))) n fun y4 => g (.h1_43 v0 v1 (w64 (v2 + (1 : Int))) v3 v4 v5 (⟨(etNode ((y4.1).n)), (y4.1).bad⟩ : form)))) else (cl (norm_form_done_m (⟨(etNode v6.n), v6.bad⟩ : form)) n fun y5 => k ((etNode (y5.2.1)), y5.2.2))
  | .h1_68 v0 v1 v2 v3 v4 v5 v6 => bif (decide (v2 < v1)) then (ix v0 v2 n fun y1 => ix v3.kids v2 n fun y2 => ck (((name_Variable_m y1).isSome) || !(!(decide ((1 : Int) < y2.kind)))) n (cl (norm_form_fail_m (⟨(etNode v6.n), v6.bad⟩ : form) (bif (decide ((1 : Int) < y2.kind)) then true else (!(gv (name_Variable_m y1))))) n fun y3 => cl (norm_form_put_m (⟨(etNode ((y3.1).n)), (y3.1).bad⟩ : form) y1 (txt1 (y2.text))) n fun y4 => g (.h1_68 v0 v1 (w64 (v2 + (1 : Int))) v3 v4 v5 (⟨(etNode ((y4.1).n)), (y4.1).bad⟩ : form)))) else (cl (norm_form_done_m (⟨(etNode v6.n), v6.bad⟩ : form)) n fun y5 => k ((etNode (y5.2.1)), y5.2.2))
def norm_Pairs_O : Oracle E := withB (orac [(43, name_Service_W), (68, name_Variable_W), (61, nget_W), (70, ntext_W), (51, norm_members_W), (66, norm_none_W), (50, norm_texts_W), (69, scut_W)]) [(54, norm_form_done_B), (52, norm_form_fail_B), (53, norm_form_put_B)]
theorem norm_Pairs_hO : OracleOk E norm_Pairs_O := withB_ok (orac_ok (.cons name_Service_ok (.cons name_Variable_ok (.cons nget_ok (.cons ntext_ok (.cons norm_members_ok (.cons norm_none_ok (.cons norm_texts_ok (.cons scut_ok .nil)))))))) .nil .nil .nil) (.cons norm_form_done_bok (.cons norm_form_fail_bok (.cons norm_form_put_bok .nil)))
def norm_Pairs_H : Hint E := { live := [(0, [4, 6, 7, 27, 28, 29]), (1, [2, 4, 6, 7, 69, 70, 71])], nils := [(0, [(6, some 2, false, .str), (6, some 3, false, .api_Node)]), (1, [(6, some 2, false, .str), (6, some 3, false, .api_Node)])] }
def norm_Pairs_C : norm_Pairs_S → Hd E
  | .e x0 x1 => .e [⟨.api_Node, x0⟩, ⟨.bool, x1⟩]
  | .h0_43 v0 v1 v2 v3 v4 v5 => .h 0 ⟨100, [(4, .ptr 0 0), (6, .ptr 1 0), (7, .d (.raw (.func (.func 43) #[] #[]))), (27, .d (.slice .str v0)), (28, .d (.int .i64 v1)), (29, .d (.int .i64 v2))], [(0, .box [.d (.int .i64 v3), .d (.str v4), .d (.raw (.slice none 0 0)), .d (.raw (.slice none 0 0))]), (1, .box [.d (.int .i64 v5.n.kind), .d (.str v5.n.text), .d (.slice .str v5.n.keys), .d (.slice .api_Node v5.n.kids), .d (.bool v5.bad)])], 2⟩
  | .h0_68 v0 v1 v2 v3 v4 v5 => .h 0 ⟨100, [(4, .ptr 0 0), (6, .ptr 1 0), (7, .d (.raw (.func (.func 68) #[] #[]))), (27, .d (.slice .str v0)), (28, .d (.int .i64 v1)), (29, .d (.int .i64 v2))], [(0, .box [.d (.int .i64 v3), .d (.str v4), .d (.raw (.slice none 0 0)), .d (.raw (.slice none 0 0))]), (1, .box [.d (.int .i64 v5.n.kind), .d (.str v5.n.text), .d (.slice .str v5.n.keys), .d (.slice .api_Node v5.n.kids), .d (.bool v5.bad)])], 2⟩
  | .h1_43 v0 v1 v2 v3 v4 v5 v6 => .h 1 ⟨100, [(2, .ptr 0 0), (4, .ptr 1 0), (6, .ptr 2 0), (7, .d (.raw (.func (.func 43) #[] #[]))), (69, .d (.slice .str v0)), (70, .d (.int .i64 v1)), (71, .d (.int .i64 v2))], [(0, .box [.d (.int .i64 v3.kind), .d (.str v3.text), .d (.slice .str v3.keys), .d (.slice .api_Node v3.kids)]), (1, .box [.d (.int .i64 v4), .d (.str v5), .d (.raw (.slice none 0 0)), .d (.raw (.slice none 0 0))]), (2, .box [.d (.int .i64 v6.n.kind), .d (.str v6.n.text), .d (.slice .str v6.n.keys), .d (.slice .api_Node v6.n.kids), .d (.bool v6.bad)])], 3⟩
  | .h1_68 v0 v1 v2 v3 v4 v5 v6 => .h 1 ⟨100, [(2, .ptr 0 0), (4, .ptr 1 0), (6, .ptr 2 0), (7, .d (.raw (.func (.func 68) #[] #[]))), (69, .d (.slice .str v0)), (70, .d (.int .i64 v1)), (71, .d (.int .i64 v2))], [(0, .box [.d (.int .i64 v3.kind), .d (.str v3.text), .d (.slice .str v3.keys), .d (.slice .api_Node v3.kids)]), (1, .box [.d (.int .i64 v4), .d (.str v5), .d (.raw (.slice none 0 0)), .d (.raw (.slice none 0 0))]), (2, .box [.d (.int .i64 v6.n.kind), .d (.str v6.n.text), .d (.slice .str v6.n.keys), .d (.slice .api_Node v6.n.kids), .d (.bool v6.bad)])], 3⟩
theorem norm_Pairs_N : NatT norm_Pairs_t := fun τ k g n s => by cases s <;> simp only [norm_Pairs_t, eA]
theorem norm_Pairs_R : Runs (E := E) .fn norm_Pairs_O Tryz.f32 norm_Pairs_H norm_Pairs_C (encA (E := E) [.api_Node, .api_Errno]) norm_Pairs_t := ⟨fun s G => by cases s <;> kernel_rfl, norm_Pairs_N⟩
def norm_Pairs_m (x0 : Node) (x1 : Bool) : Option (Node × Int) := mu norm_Pairs_t (.e x0 x1)
def norm_Pairs_W : FnW E := fnG (E := E) [.api_Node, .bool] [.api_Node, .api_Errno] fun a => norm_Pairs_m a.1 a.2
theorem norm_Pairs_ok : FnOk E 32 norm_Pairs_W := Runs.fn (E := E) (ps := [.api_Node, .bool]) (rs := [.api_Node, .api_Errno]) norm_Pairs_R norm_Pairs_hO mix ⟨Tryz.func32, by kernel_rfl, by kernel_rfl⟩ (st := fun a => .e a.1 a.2) (fun _ => rfl) fun _ r h => ⟨r, h, rfl⟩
inductive norm_field_text_S where
  | e (x0 : field) (x1 : List UInt8) (x2 : List UInt8)
def norm_field_text_t : Tree (field × (List UInt8)) norm_field_text_S := fun _ k _ n s => match s with
  | .e x0 x1 x2 => ck ((fun n _ => fit n) (etNode x0.n) x1) n (bif (!(getB (etNode x0.n) x1)) then k ((⟨(etNode x0.n), x0.left, x0.bad⟩ : field), x2) else k ((⟨(etNode x0.n), (w64 (x0.left - (1 : Int))), (bif x0.bad then true else ((getV (etNode x0.n) x1).kind != (1 : Int)))⟩ : field), (getV (etNode x0.n) x1).text))
def norm_field_text_O : Oracle E := orac [(61, nget_W)]
theorem norm_field_text_hO : OracleOk E norm_field_text_O := orac_ok (.cons nget_ok .nil) .nil .nil .nil
def norm_field_text_H : Hint E := { own := 1 }
def norm_field_text_C : norm_field_text_S → Hd E
  | .e x0 x1 x2 => .e [⟨.norm_field, x0⟩, ⟨.str, x1⟩, ⟨.str, x2⟩]
theorem norm_field_text_N : NatT norm_field_text_t := fun τ k g n s => by cases s <;> simp only [norm_field_text_t, eA]
theorem norm_field_text_R : Runs (E := E) (.bx .norm_field) norm_field_text_O Tryz.f80 norm_field_text_H norm_field_text_C (fun r => ⟨.norm_field, r.1⟩ :: encA (E := E) [.str] r.2) norm_field_text_t := ⟨fun s G => by cases s <;> kernel_rfl, norm_field_text_N⟩
def norm_field_text_m (x0 : field) (x1 : List UInt8) (x2 : List UInt8) : Option (field × (List UInt8)) := mu norm_field_text_t (.e x0 x1 x2)
def norm_field_text_B : FnB E := bxG (E := E) .norm_field [.str, .str] [.str] fun x a => norm_field_text_m x a.1 a.2
theorem norm_field_text_bok : BoxOk E 80 norm_field_text_B := Runs.bx (E := E) (ps := [.str, .str]) (rs := [.str]) norm_field_text_R norm_field_text_hO mix (by decide) ⟨Tryz.func80, by kernel_rfl, by kernel_rfl⟩ (st := fun x a => .e x a.1 a.2) (fun _ _ => rfl) fun _ _ r h => ⟨r, h, rfl⟩
inductive digit_whole_S where
  | e (x0 : List UInt8) (x1 : Int)
  | h0 (v0 : List UInt8) (v1 : Int) (v2 : Int) (v3 : Bool) (v4 : Int) (v5 : Int)
def digit_whole_t : Tree (Int × Int) digit_whole_S := fun _ k g n s => match s with
  | .e x0 x1 => ck ((decide (0 ≤ (0 : Int)) && decide ((0 : Int) < (x0.length : Int))) || !((!(x0 == ([] : List UInt8))) && (decide ((1 : Int) < (x0.length : Int))))) n (bif (bif (x0 == ([] : List UInt8)) then true else (bif (decide ((1 : Int) < (x0.length : Int))) then ((((List.getD x0 (Int.toNat (0 : Int)) 0).toNat : Nat) : Int) == (48 : Int)) else false)) then k ((0 : Int), (3 : Int)) else g (.h0 x0 x1 (0 : Int) false (x0.length : Int) (0 : Int)))
  | .h0 v0 v1 v2 v3 v4 v5 => bif (decide (v5 < v4)) then (ixb v0 v5 n fun y1 => bif (bif (decide ((w64 ((w64 y1) - (48 : Int))) < (0 : Int))) then true else (decide ((9 : Int) < (w64 ((w64 y1) - (48 : Int)))))) then k ((0 : Int), (3 : Int)) else (ck ((!((10 : Int) == (0 : Int))) || !(!v3)) n (bif (!(bif (bif v3 then true else (decide ((w64 (Int.tdiv (w64 (v1 - (w64 ((w64 y1) - (48 : Int))))) (10 : Int))) < v2))) then true else (decide (v1 < (w64 ((w64 y1) - (48 : Int))))))) then g (.h0 v0 v1 (w64 ((w64 (v2 * (10 : Int))) + (w64 ((w64 y1) - (48 : Int))))) (bif (bif v3 then true else (decide ((w64 (Int.tdiv (w64 (v1 - (w64 ((w64 y1) - (48 : Int))))) (10 : Int))) < v2))) then true else (decide (v1 < (w64 ((w64 y1) - (48 : Int)))))) v4 (w64 (v5 + (1 : Int)))) else g (.h0 v0 v1 v2 (bif (bif v3 then true else (decide ((w64 (Int.tdiv (w64 (v1 - (w64 ((w64 y1) - (48 : Int))))) (10 : Int))) < v2))) then true else (decide (v1 < (w64 ((w64 y1) - (48 : Int)))))) v4 (w64 (v5 + (1 : Int))))))) else (bif v3 then k ((0 : Int), (9 : Int)) else k (v2, (0 : Int)))
def digit_whole_O : Oracle E := orac []
theorem digit_whole_hO : OracleOk E digit_whole_O := orac_ok .nil .nil .nil .nil
def digit_whole_H : Hint E := { live := [(0, [0, 1, 6, 7, 23, 24])] }
def digit_whole_C : digit_whole_S → Hd E
  | .e x0 x1 => .e [⟨.str, x0⟩, ⟨.int, x1⟩]
  | .h0 v0 v1 v2 v3 v4 v5 => .h 0 ⟨61, [(0, .d (.str v0)), (1, .d (.int .i64 v1)), (6, .d (.int .i64 v2)), (7, .d (.bool v3)), (23, .d (.int .i64 v4)), (24, .d (.int .i64 v5))], [], 0⟩
theorem digit_whole_N : NatT digit_whole_t := fun τ k g n s => by cases s <;> simp only [digit_whole_t, eA]
theorem digit_whole_R : Runs (E := E) .fn digit_whole_O Tryz.f117 digit_whole_H digit_whole_C (encA (E := E) [.int, .api_Errno]) digit_whole_t := ⟨fun s G => by cases s <;> kernel_rfl, digit_whole_N⟩
def digit_whole_m (x0 : List UInt8) (x1 : Int) : Option (Int × Int) := mu digit_whole_t (.e x0 x1)
def digit_whole_W : FnW E := fnG (E := E) [.str, .int] [.int, .api_Errno] fun a => digit_whole_m a.1 a.2
theorem digit_whole_ok : FnOk E 117 digit_whole_W := Runs.fn (E := E) (ps := [.str, .int]) (rs := [.int, .api_Errno]) digit_whole_R digit_whole_hO mix ⟨Tryz.func117, by kernel_rfl, by kernel_rfl⟩ (st := fun a => .e a.1 a.2) (fun _ => rfl) fun _ r h => ⟨r, h, rfl⟩
inductive digit_Count_S where
  | e (x0 : List UInt8) (x1 : Int)
def digit_Count_t : Tree (Int × Int) digit_Count_S := fun _ k _ n s => match s with
  | .e x0 x1 => bif (decide (x1 < (0 : Int))) then k ((0 : Int), (2 : Int)) else (cl (digit_whole_m x0 x1) n fun y1 => k (y1.1, y1.2))
def digit_Count_O : Oracle E := orac [(117, digit_whole_W)]
theorem digit_Count_hO : OracleOk E digit_Count_O := orac_ok (.cons digit_whole_ok .nil) .nil .nil .nil
def digit_Count_H : Hint E := {}
def digit_Count_C : digit_Count_S → Hd E
  | .e x0 x1 => .e [⟨.str, x0⟩, ⟨.int, x1⟩]
theorem digit_Count_N : NatT digit_Count_t := fun τ k g n s => by cases s <;> simp only [digit_Count_t, eA]
theorem digit_Count_R : Runs (E := E) .fn digit_Count_O Tryz.f91 digit_Count_H digit_Count_C (encA (E := E) [.int, .api_Errno]) digit_Count_t := ⟨fun s G => by cases s <;> kernel_rfl, digit_Count_N⟩
def digit_Count_m (x0 : List UInt8) (x1 : Int) : Option (Int × Int) := mu digit_Count_t (.e x0 x1)
def digit_Count_W : FnW E := fnG (E := E) [.str, .int] [.int, .api_Errno] fun a => digit_Count_m a.1 a.2
theorem digit_Count_ok : FnOk E 91 digit_Count_W := Runs.fn (E := E) (ps := [.str, .int]) (rs := [.int, .api_Errno]) digit_Count_R digit_Count_hO mix ⟨Tryz.func91, by kernel_rfl, by kernel_rfl⟩ (st := fun a => .e a.1 a.2) (fun _ => rfl) fun _ r h => ⟨r, h, rfl⟩
inductive norm_field_count_S where
  | e (x0 : field) (x1 : List UInt8)
def norm_field_count_t : Tree (field × Int) norm_field_count_S := fun _ k _ n s => match s with
  | .e x0 x1 => cl (norm_field_text_m (⟨(etNode x0.n), x0.left, x0.bad⟩ : field) x1 ([48] : List UInt8)) n fun y1 => cl (digit_Count_m (y1.2) (65536 : Int)) n fun y2 => ck ((fun n _ => fit n) (etNode ((y1.1).n)) x1) n (k ((⟨(etNode ((y1.1).n)), (y1.1).left, (bif (bif (y1.1).bad then true else (y2.2 != (0 : Int))) then true else (bif (getB (etNode ((y1.1).n)) x1) then (y2.1 == (0 : Int)) else false))⟩ : field), y2.1))
def norm_field_count_O : Oracle E := withB (orac [(91, digit_Count_W), (61, nget_W)]) [(80, norm_field_text_B)]
theorem norm_field_count_hO : OracleOk E norm_field_count_O := withB_ok (orac_ok (.cons digit_Count_ok (.cons nget_ok .nil)) .nil .nil .nil) (.cons norm_field_text_bok .nil)
def norm_field_count_H : Hint E := { own := 1 }
def norm_field_count_C : norm_field_count_S → Hd E
  | .e x0 x1 => .e [⟨.norm_field, x0⟩, ⟨.str, x1⟩]
theorem norm_field_count_N : NatT norm_field_count_t := fun τ k g n s => by cases s <;> simp only [norm_field_count_t, eA]
theorem norm_field_count_R : Runs (E := E) (.bx .norm_field) norm_field_count_O Tryz.f86 norm_field_count_H norm_field_count_C (fun r => ⟨.norm_field, r.1⟩ :: encA (E := E) [.int] r.2) norm_field_count_t := ⟨fun s G => by cases s <;> kernel_rfl, norm_field_count_N⟩
def norm_field_count_m (x0 : field) (x1 : List UInt8) : Option (field × Int) := mu norm_field_count_t (.e x0 x1)
def norm_field_count_B : FnB E := bxG (E := E) .norm_field [.str] [.int] fun x a => norm_field_count_m x a
theorem norm_field_count_bok : BoxOk E 86 norm_field_count_B := Runs.bx (E := E) (ps := [.str]) (rs := [.int]) norm_field_count_R norm_field_count_hO mix (by decide) ⟨Tryz.func86, by kernel_rfl, by kernel_rfl⟩ (st := fun x a => .e x a) (fun _ _ => rfl) fun _ _ r h => ⟨r, h, rfl⟩
inductive slices_IndexFunc_string_string__port_address_1_S where
  | e (x0 : List (List UInt8))
  | h0 (v0 : List (List UInt8)) (v1 : Int) (v2 : Int)
def slices_IndexFunc_string_string__port_address_1_t : Tree (Int) slices_IndexFunc_string_string__port_address_1_S := fun _ k g n s => match s with
  | .e x0 => g (.h0 x0 (x0.length : Int) (0 : Int))
  | .h0 v0 v1 v2 => bif (decide (v2 < v1)) then (ix v0 v2 n fun y1 => cl (digit_Count_m y1 (255 : Int)) n fun y2 => bif (y2.2 != (0 : Int)) then k v2 else g (.h0 v0 v1 (w64 (v2 + (1 : Int))))) else k (-1 : Int)
def slices_IndexFunc_string_string__port_address_1_O : Oracle E := withI (orac [(91, digit_Count_W)]) [(158, Tryz.f158)]
theorem slices_IndexFunc_string_string__port_address_1_hO : OracleOk E slices_IndexFunc_string_string__port_address_1_O := withI_ok (orac_ok (.cons digit_Count_ok .nil) .nil .nil .nil) mix (.cons (f := 158) (fn := Tryz.f158) (by kernel_rfl) (by kernel_rfl) (by kernel_rfl) .nil)
def slices_IndexFunc_string_string__port_address_1_H : Hint E := { live := [(0, [0, 1, 7, 8])] }
def slices_IndexFunc_string_string__port_address_1_C : slices_IndexFunc_string_string__port_address_1_S → Hd E
  | .e x0 => .c [.v ⟨.l_str, x0⟩, .c 158 [] []]
  | .h0 v0 v1 v2 => .h 0 ⟨19, [(0, .d (.slice .str v0)), (1, .d (.raw (.func (.func 158) #[] #[]))), (7, .d (.int .i64 v1)), (8, .d (.int .i64 v2))], [], 0⟩
theorem slices_IndexFunc_string_string__port_address_1_N : NatT slices_IndexFunc_string_string__port_address_1_t := fun τ k g n s => by cases s <;> simp only [slices_IndexFunc_string_string__port_address_1_t, eA]
theorem slices_IndexFunc_string_string__port_address_1_R : Runs (E := E) .fn slices_IndexFunc_string_string__port_address_1_O Tryz.f168 slices_IndexFunc_string_string__port_address_1_H slices_IndexFunc_string_string__port_address_1_C (encA (E := E) [.int]) slices_IndexFunc_string_string__port_address_1_t := ⟨fun s G => by cases s <;> kernel_rfl, slices_IndexFunc_string_string__port_address_1_N⟩
def slices_IndexFunc_string_string__port_address_1_m (x0 : List (List UInt8)) : Option (Int) := mu slices_IndexFunc_string_string__port_address_1_t (.e x0)
def slices_IndexFunc_string_string__port_address_1_A : FnP E := fnP (E := E) [.v .l_str, .c 158 [] []] [.int] fun a => slices_IndexFunc_string_string__port_address_1_m a
theorem slices_IndexFunc_string_string__port_address_1_aok : AOk E 168 slices_IndexFunc_string_string__port_address_1_A := Runs.cl (E := E) (sh := [.v .l_str, .c 158 [] []]) (rs := [.int]) slices_IndexFunc_string_string__port_address_1_R slices_IndexFunc_string_string__port_address_1_hO mix ⟨Tryz.func168, by kernel_rfl, by kernel_rfl⟩ (st := fun a => .e a) (fun _ => rfl) fun _ r h => ⟨r, h, rfl⟩
inductive slices_ContainsFunc_string_string__port_address_1_S where
  | e (x0 : List (List UInt8))
def slices_ContainsFunc_string_string__port_address_1_t : Tree (Bool) slices_ContainsFunc_string_string__port_address_1_S := fun _ k _ n s => match s with
  | .e x0 => cl (slices_IndexFunc_string_string__port_address_1_m x0) n fun y1 => k (decide (0 ≤ y1))
def slices_ContainsFunc_string_string__port_address_1_O : Oracle E := withA (orac []) [(168, slices_IndexFunc_string_string__port_address_1_A)]
theorem slices_ContainsFunc_string_string__port_address_1_hO : OracleOk E slices_ContainsFunc_string_string__port_address_1_O := withA_ok (orac_ok .nil .nil .nil .nil) (.cons slices_IndexFunc_string_string__port_address_1_aok .nil)
def slices_ContainsFunc_string_string__port_address_1_H : Hint E := {}
def slices_ContainsFunc_string_string__port_address_1_C : slices_ContainsFunc_string_string__port_address_1_S → Hd E
  | .e x0 => .c [.v ⟨.l_str, x0⟩, .c 158 [] []]
theorem slices_ContainsFunc_string_string__port_address_1_N : NatT slices_ContainsFunc_string_string__port_address_1_t := fun τ k g n s => by cases s <;> simp only [slices_ContainsFunc_string_string__port_address_1_t, eA]
theorem slices_ContainsFunc_string_string__port_address_1_R : Runs (E := E) .fn slices_ContainsFunc_string_string__port_address_1_O Tryz.f157 slices_ContainsFunc_string_string__port_address_1_H slices_ContainsFunc_string_string__port_address_1_C (encA (E := E) [.bool]) slices_ContainsFunc_string_string__port_address_1_t := ⟨fun s G => by cases s <;> kernel_rfl, slices_ContainsFunc_string_string__port_address_1_N⟩
def slices_ContainsFunc_string_string__port_address_1_m (x0 : List (List UInt8)) : Option (Bool) := mu slices_ContainsFunc_string_string__port_address_1_t (.e x0)
def slices_ContainsFunc_string_string__port_address_1_A : FnP E := fnP (E := E) [.v .l_str, .c 158 [] []] [.bool] fun a => slices_ContainsFunc_string_string__port_address_1_m a
theorem slices_ContainsFunc_string_string__port_address_1_aok : AOk E 157 slices_ContainsFunc_string_string__port_address_1_A := Runs.cl (E := E) (sh := [.v .l_str, .c 158 [] []]) (rs := [.bool]) slices_ContainsFunc_string_string__port_address_1_R slices_ContainsFunc_string_string__port_address_1_hO mix ⟨Tryz.func157, by kernel_rfl, by kernel_rfl⟩ (st := fun a => .e a) (fun _ => rfl) fun _ r h => ⟨r, h, rfl⟩
inductive port_address_S where
  | e (x0 : List UInt8)
def port_address_t : Tree (Bool) port_address_S := fun _ k _ n s => match s with
  | .e x0 => ck (okSp x0 ([46] : List UInt8) (0 : Int) (-1 : Int)) n (ck (((slices_ContainsFunc_string_string__port_address_1_m (spP x0 ([46] : List UInt8) (0 : Int) (-1 : Int))).isSome) || !(((spP x0 ([46] : List UInt8) (0 : Int) (-1 : Int)).length : Int) == (4 : Int))) n (k (bif (((spP x0 ([46] : List UInt8) (0 : Int) (-1 : Int)).length : Int) == (4 : Int)) then (!(gv (slices_ContainsFunc_string_string__port_address_1_m (spP x0 ([46] : List UInt8) (0 : Int) (-1 : Int))))) else false)))
def port_address_O : Oracle E := withA (withI (orac [] [(139, gsplit_R)]) [(110, Tryz.f110)]) [(157, slices_ContainsFunc_string_string__port_address_1_A)]
theorem port_address_hO : OracleOk E port_address_O := withA_ok (withI_ok (orac_ok .nil (.cons gsplit_rok .nil) .nil .nil) mix (.cons (f := 110) (fn := Tryz.f110) (by kernel_rfl) (by kernel_rfl) (by kernel_rfl) .nil)) (.cons slices_ContainsFunc_string_string__port_address_1_aok .nil)
def port_address_H : Hint E := { frz := [2] }
def port_address_C : port_address_S → Hd E
  | .e x0 => .e [⟨.str, x0⟩]
theorem port_address_N : NatT port_address_t := fun τ k g n s => by cases s <;> simp only [port_address_t, eA]
theorem port_address_R : Runs (E := E) .fn port_address_O Tryz.f138 port_address_H port_address_C (encA (E := E) [.bool]) port_address_t := ⟨fun s G => by cases s <;> kernel_rfl, port_address_N⟩
def port_address_m (x0 : List UInt8) : Option (Bool) := mu port_address_t (.e x0)
def port_address_W : FnW E := fnG (E := E) [.str] [.bool] fun a => port_address_m a
theorem port_address_ok : FnOk E 138 port_address_W := Runs.fn (E := E) (ps := [.str]) (rs := [.bool]) port_address_R port_address_hO mix ⟨Tryz.func138, by kernel_rfl, by kernel_rfl⟩ (st := fun a => .e a) (fun _ => rfl) fun _ r h => ⟨r, h, rfl⟩
inductive port_Right_S where
  | e (x0 : Port)
def port_Right_t : Tree (Bool) port_Right_S := fun _ k _ n s => match s with
  | .e x0 => ck (((port_address_m x0.host).isSome) || !((bif (bif (bif (bif (decide ((1 : Int) ≤ x0.in_)) then (decide (x0.in_ ≤ (65535 : Int))) else false) then (decide (0 ≤ x0.out)) else false) then (decide (x0.out ≤ (65535 : Int))) else false) then (bif (x0.proto == ([116, 99, 112] : List UInt8)) then true else (x0.proto == ([117, 100, 112] : List UInt8))) else false) && (!(x0.host == ([] : List UInt8))))) n (k (bif (bif (bif (bif (bif (decide ((1 : Int) ≤ x0.in_)) then (decide (x0.in_ ≤ (65535 : Int))) else false) then (decide (0 ≤ x0.out)) else false) then (decide (x0.out ≤ (65535 : Int))) else false) then (bif (x0.proto == ([116, 99, 112] : List UInt8)) then true else (x0.proto == ([117, 100, 112] : List UInt8))) else false) then (bif (x0.host == ([] : List UInt8)) then true else (gv (port_address_m x0.host))) else false))
def port_Right_O : Oracle E := orac [(138, port_address_W)]
theorem port_Right_hO : OracleOk E port_Right_O := orac_ok (.cons port_address_ok .nil) .nil .nil .nil
def port_Right_H : Hint E := {}
def port_Right_C : port_Right_S → Hd E
  | .e x0 => .e [⟨.api_Port, x0⟩]
theorem port_Right_N : NatT port_Right_t := fun τ k g n s => by cases s <;> simp only [port_Right_t, eA]
theorem port_Right_R : Runs (E := E) .fn port_Right_O Tryz.f109 port_Right_H port_Right_C (encA (E := E) [.bool]) port_Right_t := ⟨fun s G => by cases s <;> kernel_rfl, port_Right_N⟩
def port_Right_m (x0 : Port) : Option (Bool) := mu port_Right_t (.e x0)
def port_Right_W : FnW E := fnG (E := E) [.api_Port] [.bool] fun a => port_Right_m a
theorem port_Right_ok : FnOk E 109 port_Right_W := Runs.fn (E := E) (ps := [.api_Port]) (rs := [.bool]) port_Right_R port_Right_hO mix ⟨Tryz.func109, by kernel_rfl, by kernel_rfl⟩ (st := fun a => .e a) (fun _ => rfl) fun _ r h => ⟨r, h, rfl⟩
inductive norm_long_S where
  | e (x0 : Node)
def norm_long_t : Tree (Port × Bool) norm_long_S := fun _ k _ n s => match s with
  | .e x0 => cl (norm_field_count_m (⟨(etNode x0), (x0.keys.length : Int), (x0.kind != (3 : Int))⟩ : field) ([116, 97, 114, 103, 101, 116] : List UInt8)) n fun y1 => cl (norm_field_count_m (⟨(etNode ((y1.1).n)), (y1.1).left, (y1.1).bad⟩ : field) ([112, 117, 98, 108, 105, 115, 104, 101, 100] : List UInt8)) n fun y2 => cl (norm_field_text_m (⟨(etNode ((y2.1).n)), (y2.1).left, (y2.1).bad⟩ : field) ([104, 111, 115, 116, 95, 105, 112] : List UInt8) ([] : List UInt8)) n fun y3 => cl (norm_field_text_m (⟨(etNode ((y3.1).n)), (y3.1).left, (y3.1).bad⟩ : field) ([112, 114, 111, 116, 111, 99, 111, 108] : List UInt8) ([116, 99, 112] : List UInt8)) n fun y4 => ck (((port_Right_m (⟨y3.2, y2.2, y1.2, y4.2⟩ : Port)).isSome) || !(bif (!(y4.1).bad) then ((y4.1).left == (0 : Int)) else false)) n (k ((⟨y3.2, y2.2, y1.2, y4.2⟩ : Port), (bif (bif (!(y4.1).bad) then ((y4.1).left == (0 : Int)) else false) then (gv (port_Right_m (⟨y3.2, y2.2, y1.2, y4.2⟩ : Port))) else false)))
def norm_long_O : Oracle E := withB (withI (orac [(109, port_Right_W)]) [(79, Tryz.f79), (81, Tryz.f81)]) [(86, norm_field_count_B), (80, norm_field_text_B)]
theorem norm_long_hO : OracleOk E norm_long_O := withB_ok (withI_ok (orac_ok (.cons port_Right_ok .nil) .nil .nil .nil) mix (.cons (f := 79) (fn := Tryz.f79) (by kernel_rfl) (by kernel_rfl) (by kernel_rfl) (.cons (f := 81) (fn := Tryz.f81) (by kernel_rfl) (by kernel_rfl) (by kernel_rfl) .nil))) (.cons norm_field_count_bok (.cons norm_field_text_bok .nil))
def norm_long_H : Hint E := {}
def norm_long_C : norm_long_S → Hd E
  | .e x0 => .e [⟨.api_Node, x0⟩]
theorem norm_long_N : NatT norm_long_t := fun τ k g n s => by cases s <;> simp only [norm_long_t, eA]
theorem norm_long_R : Runs (E := E) .fn norm_long_O Tryz.f71 norm_long_H norm_long_C (encA (E := E) [.api_Port, .bool]) norm_long_t := ⟨fun s G => by cases s <;> kernel_rfl, norm_long_N⟩
def norm_long_m (x0 : Node) : Option (Port × Bool) := mu norm_long_t (.e x0)
def norm_long_W : FnW E := fnG (E := E) [.api_Node] [.api_Port, .bool] fun a => norm_long_m a
theorem norm_long_ok : FnOk E 71 norm_long_W := Runs.fn (E := E) (ps := [.api_Node]) (rs := [.api_Port, .bool]) norm_long_R norm_long_hO mix ⟨Tryz.func71, by kernel_rfl, by kernel_rfl⟩ (st := fun a => .e a) (fun _ => rfl) fun _ r h => ⟨r, h, rfl⟩
inductive port_number_S where
  | e (x0 : List UInt8)
def port_number_t : Tree (Int) port_number_S := fun _ k _ n s => match s with
  | .e x0 => cl (digit_Count_m x0 (65535 : Int)) n fun y1 => bif (bif (y1.2 != (0 : Int)) then true else (y1.1 == (0 : Int))) then k (-1 : Int) else k y1.1
def port_number_O : Oracle E := orac [(91, digit_Count_W)]
theorem port_number_hO : OracleOk E port_number_O := orac_ok (.cons digit_Count_ok .nil) .nil .nil .nil
def port_number_H : Hint E := {}
def port_number_C : port_number_S → Hd E
  | .e x0 => .e [⟨.str, x0⟩]
theorem port_number_N : NatT port_number_t := fun τ k g n s => by cases s <;> simp only [port_number_t, eA]
theorem port_number_R : Runs (E := E) .fn port_number_O Tryz.f111 port_number_H port_number_C (encA (E := E) [.int]) port_number_t := ⟨fun s G => by cases s <;> kernel_rfl, port_number_N⟩
def port_number_m (x0 : List UInt8) : Option (Int) := mu port_number_t (.e x0)
def port_number_W : FnW E := fnG (E := E) [.str] [.int] fun a => port_number_m a
theorem port_number_ok : FnOk E 111 port_number_W := Runs.fn (E := E) (ps := [.str]) (rs := [.int]) port_number_R port_number_hO mix ⟨Tryz.func111, by kernel_rfl, by kernel_rfl⟩ (st := fun a => .e a) (fun _ => rfl) fun _ r h => ⟨r, h, rfl⟩
inductive port_Parse_S where
  | e (x0 : List UInt8)
def port_Parse_t : Tree (Port × Int) port_Parse_S := fun _ k _ n s => match s with
  | .e x0 => ck (okIx x0 ([47] : List UInt8)) n (bif (cutC x0 ([47] : List UInt8)) then (ck (okSp (cutA x0 ([47] : List UInt8)) ([58] : List UInt8) (0 : Int) (-1 : Int)) n (ck (decide (0 ≤ (w64 ((((spP (cutA x0 ([47] : List UInt8)) ([58] : List UInt8) (0 : Int) (-1 : Int)).length : Nat) : Int) - (1 : Int)))) && decide ((w64 ((((spP (cutA x0 ([47] : List UInt8)) ([58] : List UInt8) (0 : Int) (-1 : Int)).length : Nat) : Int) - (1 : Int))) < ((spP (cutA x0 ([47] : List UInt8)) ([58] : List UInt8) (0 : Int) (-1 : Int)).length : Nat))) n (cl (port_number_m (List.getD (spP (cutA x0 ([47] : List UInt8)) ([58] : List UInt8) (0 : Int) (-1 : Int)) (Int.toNat (w64 ((((spP (cutA x0 ([47] : List UInt8)) ([58] : List UInt8) (0 : Int) (-1 : Int)).length : Nat) : Int) - (1 : Int)))) (dflt .str))) n fun y1 => bif ((((spP (cutA x0 ([47] : List UInt8)) ([58] : List UInt8) (0 : Int) (-1 : Int)).length : Nat) : Int) == (1 : Int)) then (cl (port_Right_m (⟨([] : List UInt8), (0 : Int), y1, (cutB x0 ([47] : List UInt8))⟩ : Port)) n fun y2 => bif (!y2) then k ((⟨([] : List UInt8), (0 : Int), (0 : Int), ([] : List UInt8)⟩ : Port), (3 : Int)) else k ((⟨([] : List UInt8), (0 : Int), y1, (cutB x0 ([47] : List UInt8))⟩ : Port), (0 : Int))) else (bif ((((spP (cutA x0 ([47] : List UInt8)) ([58] : List UInt8) (0 : Int) (-1 : Int)).length : Nat) : Int) == (2 : Int)) then (ck (decide (0 ≤ (0 : Int)) && decide ((0 : Int) < ((spP (cutA x0 ([47] : List UInt8)) ([58] : List UInt8) (0 : Int) (-1 : Int)).length : Nat))) n (cl (port_number_m (List.getD (spP (cutA x0 ([47] : List UInt8)) ([58] : List UInt8) (0 : Int) (-1 : Int)) (Int.toNat (0 : Int)) (dflt .str))) n fun y3 => cl (port_Right_m (⟨([] : List UInt8), y3, y1, (cutB x0 ([47] : List UInt8))⟩ : Port)) n fun y4 => bif (!y4) then k ((⟨([] : List UInt8), (0 : Int), (0 : Int), ([] : List UInt8)⟩ : Port), (3 : Int)) else k ((⟨([] : List UInt8), y3, y1, (cutB x0 ([47] : List UInt8))⟩ : Port), (0 : Int)))) else (bif ((((spP (cutA x0 ([47] : List UInt8)) ([58] : List UInt8) (0 : Int) (-1 : Int)).length : Nat) : Int) == (3 : Int)) then (ck (decide (0 ≤ (0 : Int)) && decide ((0 : Int) < ((spP (cutA x0 ([47] : List UInt8)) ([58] : List UInt8) (0 : Int) (-1 : Int)).length : Nat))) n (bif ((List.getD (spP (cutA x0 ([47] : List UInt8)) ([58] : List UInt8) (0 : Int) (-1 : Int)) (Int.toNat (0 : Int)) (dflt .str)) == ([] : List UInt8)) then k ((⟨([] : List UInt8), (0 : Int), (0 : Int), ([] : List UInt8)⟩ : Port), (3 : Int)) else (ck (decide (0 ≤ (1 : Int)) && decide ((1 : Int) < ((spP (cutA x0 ([47] : List UInt8)) ([58] : List UInt8) (0 : Int) (-1 : Int)).length : Nat))) n (bif (!((List.getD (spP (cutA x0 ([47] : List UInt8)) ([58] : List UInt8) (0 : Int) (-1 : Int)) (Int.toNat (1 : Int)) (dflt .str)) == ([] : List UInt8))) then (ck (decide (0 ≤ (1 : Int)) && decide ((1 : Int) < ((spP (cutA x0 ([47] : List UInt8)) ([58] : List UInt8) (0 : Int) (-1 : Int)).length : Nat))) n (cl (port_number_m (List.getD (spP (cutA x0 ([47] : List UInt8)) ([58] : List UInt8) (0 : Int) (-1 : Int)) (Int.toNat (1 : Int)) (dflt .str))) n fun y5 => cl (port_Right_m (⟨(List.getD (spP (cutA x0 ([47] : List UInt8)) ([58] : List UInt8) (0 : Int) (-1 : Int)) (Int.toNat (0 : Int)) (dflt .str)), y5, y1, (cutB x0 ([47] : List UInt8))⟩ : Port)) n fun y6 => bif (!y6) then k ((⟨([] : List UInt8), (0 : Int), (0 : Int), ([] : List UInt8)⟩ : Port), (3 : Int)) else k ((⟨(List.getD (spP (cutA x0 ([47] : List UInt8)) ([58] : List UInt8) (0 : Int) (-1 : Int)) (Int.toNat (0 : Int)) (dflt .str)), y5, y1, (cutB x0 ([47] : List UInt8))⟩ : Port), (0 : Int)))) else (cl (port_Right_m (⟨(List.getD (spP (cutA x0 ([47] : List UInt8)) ([58] : List UInt8) (0 : Int) (-1 : Int)) (Int.toNat (0 : Int)) (dflt .str)), (0 : Int), y1, (cutB x0 ([47] : List UInt8))⟩ : Port)) n fun y7 => bif (!y7) then k ((⟨([] : List UInt8), (0 : Int), (0 : Int), ([] : List UInt8)⟩ : Port), (3 : Int)) else k ((⟨(List.getD (spP (cutA x0 ([47] : List UInt8)) ([58] : List UInt8) (0 : Int) (-1 : Int)) (Int.toNat (0 : Int)) (dflt .str)), (0 : Int), y1, (cutB x0 ([47] : List UInt8))⟩ : Port), (0 : Int))))))) else k ((⟨([] : List UInt8), (0 : Int), (0 : Int), ([] : List UInt8)⟩ : Port), (3 : Int))))))) else (ck (okSp x0 ([58] : List UInt8) (0 : Int) (-1 : Int)) n (ck (decide (0 ≤ (w64 ((((spP x0 ([58] : List UInt8) (0 : Int) (-1 : Int)).length : Nat) : Int) - (1 : Int)))) && decide ((w64 ((((spP x0 ([58] : List UInt8) (0 : Int) (-1 : Int)).length : Nat) : Int) - (1 : Int))) < ((spP x0 ([58] : List UInt8) (0 : Int) (-1 : Int)).length : Nat))) n (cl (port_number_m (List.getD (spP x0 ([58] : List UInt8) (0 : Int) (-1 : Int)) (Int.toNat (w64 ((((spP x0 ([58] : List UInt8) (0 : Int) (-1 : Int)).length : Nat) : Int) - (1 : Int)))) (dflt .str))) n fun y8 => bif ((((spP x0 ([58] : List UInt8) (0 : Int) (-1 : Int)).length : Nat) : Int) == (1 : Int)) then (cl (port_Right_m (⟨([] : List UInt8), (0 : Int), y8, ([116, 99, 112] : List UInt8)⟩ : Port)) n fun y9 => bif (!y9) then k ((⟨([] : List UInt8), (0 : Int), (0 : Int), ([] : List UInt8)⟩ : Port), (3 : Int)) else k ((⟨([] : List UInt8), (0 : Int), y8, ([116, 99, 112] : List UInt8)⟩ : Port), (0 : Int))) else (bif ((((spP x0 ([58] : List UInt8) (0 : Int) (-1 : Int)).length : Nat) : Int) == (2 : Int)) then (ck (decide (0 ≤ (0 : Int)) && decide ((0 : Int) < ((spP x0 ([58] : List UInt8) (0 : Int) (-1 : Int)).length : Nat))) n (cl (port_number_m (List.getD (spP x0 ([58] : List UInt8) (0 : Int) (-1 : Int)) (Int.toNat (0 : Int)) (dflt .str))) n fun y10 => cl (port_Right_m (⟨([] : List UInt8), y10, y8, ([116, 99, 112] : List UInt8)⟩ : Port)) n fun y11 => bif (!y11) then k ((⟨([] : List UInt8), (0 : Int), (0 : Int), ([] : List UInt8)⟩ : Port), (3 : Int)) else k ((⟨([] : List UInt8), y10, y8, ([116, 99, 112] : List UInt8)⟩ : Port), (0 : Int)))) else (bif ((((spP x0 ([58] : List UInt8) (0 : Int) (-1 : Int)).length : Nat) : Int) == (3 : Int)) then (ck (decide (0 ≤ (0 : Int)) && decide ((0 : Int) < ((spP x0 ([58] : List UInt8) (0 : Int) (-1 : Int)).length : Nat))) n (bif ((List.getD (spP x0 ([58] : List UInt8) (0 : Int) (-1 : Int)) (Int.toNat (0 : Int)) (dflt .str)) == ([] : List UInt8)) then k ((⟨([] : List UInt8), (0 : Int), (0 : Int), ([] : List UInt8)⟩ : Port), (3 : Int)) else (ck (decide (0 ≤ (1 : Int)) && decide ((1 : Int) < ((spP x0 ([58] : List UInt8) (0 : Int) (-1 : Int)).length : Nat))) n (bif (!((List.getD (spP x0 ([58] : List UInt8) (0 : Int) (-1 : Int)) (Int.toNat (1 : Int)) (dflt .str)) == ([] : List UInt8))) then (ck (decide (0 ≤ (1 : Int)) && decide ((1 : Int) < ((spP x0 ([58] : List UInt8) (0 : Int) (-1 : Int)).length : Nat))) n (cl (port_number_m (List.getD (spP x0 ([58] : List UInt8) (0 : Int) (-1 : Int)) (Int.toNat (1 : Int)) (dflt .str))) n fun y12 => cl (port_Right_m (⟨(List.getD (spP x0 ([58] : List UInt8) (0 : Int) (-1 : Int)) (Int.toNat (0 : Int)) (dflt .str)), y12, y8, ([116, 99, 112] : List UInt8)⟩ : Port)) n fun y13 => bif (!y13) then k ((⟨([] : List UInt8), (0 : Int), (0 : Int), ([] : List UInt8)⟩ : Port), (3 : Int)) else k ((⟨(List.getD (spP x0 ([58] : List UInt8) (0 : Int) (-1 : Int)) (Int.toNat (0 : Int)) (dflt .str)), y12, y8, ([116, 99, 112] : List UInt8)⟩ : Port), (0 : Int)))) else (cl (port_Right_m (⟨(List.getD (spP x0 ([58] : List UInt8) (0 : Int) (-1 : Int)) (Int.toNat (0 : Int)) (dflt .str)), (0 : Int), y8, ([116, 99, 112] : List UInt8)⟩ : Port)) n fun y14 => bif (!y14) then k ((⟨([] : List UInt8), (0 : Int), (0 : Int), ([] : List UInt8)⟩ : Port), (3 : Int)) else k ((⟨(List.getD (spP x0 ([58] : List UInt8) (0 : Int) (-1 : Int)) (Int.toNat (0 : Int)) (dflt .str)), (0 : Int), y8, ([116, 99, 112] : List UInt8)⟩ : Port), (0 : Int))))))) else k ((⟨([] : List UInt8), (0 : Int), (0 : Int), ([] : List UInt8)⟩ : Port), (3 : Int))))))))
def port_Parse_O : Oracle E := withI (orac [(109, port_Right_W), (111, port_number_W), (69, scut_W)] [(139, gsplit_R)]) [(110, Tryz.f110)]
theorem port_Parse_hO : OracleOk E port_Parse_O := withI_ok (orac_ok (.cons port_Right_ok (.cons port_number_ok (.cons scut_ok .nil))) (.cons gsplit_rok .nil) .nil .nil) mix (.cons (f := 110) (fn := Tryz.f110) (by kernel_rfl) (by kernel_rfl) (by kernel_rfl) .nil)
def port_Parse_H : Hint E := {}
def port_Parse_C : port_Parse_S → Hd E
  | .e x0 => .e [⟨.str, x0⟩]
theorem port_Parse_N : NatT port_Parse_t := fun τ k g n s => by cases s <;> simp only [port_Parse_t, eA]
theorem port_Parse_R : Runs (E := E) .fn port_Parse_O Tryz.f72 port_Parse_H port_Parse_C (encA (E := E) [.api_Port, .api_Errno]) port_Parse_t := ⟨fun s G => by cases s <;> kernel_rfl, port_Parse_N⟩
def port_Parse_m (x0 : List UInt8) : Option (Port × Int) := mu port_Parse_t (.e x0)
def port_Parse_W : FnW E := fnG (E := E) [.str] [.api_Port, .api_Errno] fun a => port_Parse_m a
theorem port_Parse_ok : FnOk E 72 port_Parse_W := Runs.fn (E := E) (ps := [.str]) (rs := [.api_Port, .api_Errno]) port_Parse_R port_Parse_hO mix ⟨Tryz.func72, by kernel_rfl, by kernel_rfl⟩ (st := fun a => .e a) (fun _ => rfl) fun _ r h => ⟨r, h, rfl⟩
inductive digit_Text_S where
  | e (x0 : Int)
  | h0 (v0 : Int) (v1 : Bool) (v2 : Int) (v3 : List Int)
def digit_Text_t : Tree ((List UInt8)) digit_Text_S := fun _ k g n s => match s with
  | .e x0 => bif (decide (x0 < (0 : Int))) then g (.h0 (20 : Int) (decide (x0 < (0 : Int))) (IntKind.wrap .u64 (0 - (IntKind.wrap .u64 x0))) ([(0 : Int), (0 : Int), (0 : Int), (0 : Int), (0 : Int), (0 : Int), (0 : Int), (0 : Int), (0 : Int), (0 : Int), (0 : Int), (0 : Int), (0 : Int), (0 : Int), (0 : Int), (0 : Int), (0 : Int), (0 : Int), (0 : Int), (0 : Int)] : List Int)) else g (.h0 (20 : Int) (decide (x0 < (0 : Int))) (IntKind.wrap .u64 x0) ([(0 : Int), (0 : Int), (0 : Int), (0 : Int), (0 : Int), (0 : Int), (0 : Int), (0 : Int), (0 : Int), (0 : Int), (0 : Int), (0 : Int), (0 : Int), (0 : Int), (0 : Int), (0 : Int), (0 : Int), (0 : Int), (0 : Int), (0 : Int)] : List Int))
  | .h0 v0 v1 v2 v3 => ck (!((10 : Int) == (0 : Int))) n (ck (decide (0 ≤ (w64 (v0 - (1 : Int)))) && decide ((w64 (v0 - (1 : Int))) < (20 : Int))) n (ck (Nat.blt (arI (w64 (v0 - (1 : Int)))) v3.length) n (ck (!((10 : Int) == (0 : Int))) n (bif ((IntKind.wrap .u64 (Int.tdiv v2 (10 : Int))) == (0 : Int)) then (bif v1 then (ck (decide (0 ≤ (w64 ((w64 (v0 - (1 : Int))) - (1 : Int)))) && decide ((w64 ((w64 (v0 - (1 : Int))) - (1 : Int))) < (20 : Int))) n (ck (Nat.blt (arI (w64 ((w64 (v0 - (1 : Int))) - (1 : Int)))) (List.set v3 (arI (w64 (v0 - (1 : Int)))) (IntKind.wrap .u8 (IntKind.wrap .u64 ((48 : Int) + (Int.tmod v2 (10 : Int)))))).length) n (ck (Nat.beq (List.set (List.set v3 (arI (w64 (v0 - (1 : Int)))) (IntKind.wrap .u8 (IntKind.wrap .u64 ((48 : Int) + (Int.tmod v2 (10 : Int)))))) (arI (w64 ((w64 (v0 - (1 : Int))) - (1 : Int)))) (45 : Int)).length 20 && (decide (0 ≤ (w64 ((w64 (v0 - (1 : Int))) - (1 : Int)))) && decide ((w64 ((w64 (v0 - (1 : Int))) - (1 : Int))) ≤ (20 : Int)) && decide ((20 : Int) ≤ (20 : Int)))) n (k (List.map (fun y => UInt8.ofNat (Int.toNat y)) (cut (List.set (List.set v3 (arI (w64 (v0 - (1 : Int)))) (IntKind.wrap .u8 (IntKind.wrap .u64 ((48 : Int) + (Int.tmod v2 (10 : Int)))))) (arI (w64 ((w64 (v0 - (1 : Int))) - (1 : Int)))) (45 : Int)) (w64 ((w64 (v0 - (1 : Int))) - (1 : Int))) (20 : Int))))))) else (ck (Nat.beq (List.set v3 (arI (w64 (v0 - (1 : Int)))) (IntKind.wrap .u8 (IntKind.wrap .u64 ((48 : Int) + (Int.tmod v2 (10 : Int)))))).length 20 && (decide (0 ≤ (w64 (v0 - (1 : Int)))) && decide ((w64 (v0 - (1 : Int))) ≤ (20 : Int)) && decide ((20 : Int) ≤ (20 : Int)))) n (k (List.map (fun y => UInt8.ofNat (Int.toNat y)) (cut (List.set v3 (arI (w64 (v0 - (1 : Int)))) (IntKind.wrap .u8 (IntKind.wrap .u64 ((48 : Int) + (Int.tmod v2 (10 : Int)))))) (w64 (v0 - (1 : Int))) (20 : Int)))))) else g (.h0 (w64 (v0 - (1 : Int))) v1 (IntKind.wrap .u64 (Int.tdiv v2 (10 : Int))) (List.set v3 (arI (w64 (v0 - (1 : Int)))) (IntKind.wrap .u8 (IntKind.wrap .u64 ((48 : Int) + (Int.tmod v2 (10 : Int)))))))))))
def digit_Text_O : Oracle E := orac []
theorem digit_Text_hO : OracleOk E digit_Text_O := orac_ok .nil .nil .nil .nil
def digit_Text_H : Hint E := { live := [(0, [3, 4, 5, 6])], arr := [(2, [(3, some .byte)]), (13, [(3, none)])] }
def digit_Text_C : digit_Text_S → Hd E
  | .e x0 => .e [⟨.int, x0⟩]
  | .h0 v0 v1 v2 v3 => .h 0 ⟨34, [(3, .ptr 0 0), (4, .d (.int .i64 v0)), (5, .d (.bool v1)), (6, .d (.int .u64 v2))], [(0, .arr .byte v3 false)], 1⟩
theorem digit_Text_N : NatT digit_Text_t := fun τ k g n s => by cases s <;> simp only [digit_Text_t, eA]
theorem digit_Text_R : Runs (E := E) .fn digit_Text_O Tryz.f87 digit_Text_H digit_Text_C (encA (E := E) [.str]) digit_Text_t := ⟨fun s G => by cases s <;> kernel_rfl, digit_Text_N⟩
def digit_Text_m (x0 : Int) : Option ((List UInt8)) := mu digit_Text_t (.e x0)
def digit_Text_W : FnW E := fnG (E := E) [.int] [.str] fun a => digit_Text_m a
theorem digit_Text_ok : FnOk E 87 digit_Text_W := Runs.fn (E := E) (ps := [.int]) (rs := [.str]) digit_Text_R digit_Text_hO mix ⟨Tryz.func87, by kernel_rfl, by kernel_rfl⟩ (st := fun a => .e a) (fun _ => rfl) fun _ r h => ⟨r, h, rfl⟩
inductive port_Text_S where
  | e (x0 : Port)
def port_Text_t : Tree ((List UInt8)) port_Text_S := fun _ k _ n s => match s with
  | .e x0 => cl (port_Right_m x0) n fun y1 => bif (!y1) then k ([] : List UInt8) else (bif (decide ((0 : Int) < x0.out)) then (cl (digit_Text_m x0.out) n fun y2 => bif (!(x0.host == ([] : List UInt8))) then (ck (decide (x0.host.length + ([58] : List UInt8).length ≤ maxStr)) n (ck (decide ((x0.host ++ ([58] : List UInt8)).length + y2.length ≤ maxStr)) n (bif (!(((x0.host ++ ([58] : List UInt8)) ++ y2) == ([] : List UInt8))) then (ck (decide (((x0.host ++ ([58] : List UInt8)) ++ y2).length + ([58] : List UInt8).length ≤ maxStr)) n (cl (digit_Text_m x0.in_) n fun y3 => ck (decide ((((x0.host ++ ([58] : List UInt8)) ++ y2) ++ ([58] : List UInt8)).length + y3.length ≤ maxStr)) n (bif (x0.proto == ([117, 100, 112] : List UInt8)) then (ck (decide (((((x0.host ++ ([58] : List UInt8)) ++ y2) ++ ([58] : List UInt8)) ++ y3).length + ([47, 117, 100, 112] : List UInt8).length ≤ maxStr)) n (k (((((x0.host ++ ([58] : List UInt8)) ++ y2) ++ ([58] : List UInt8)) ++ y3) ++ ([47, 117, 100, 112] : List UInt8)))) else k ((((x0.host ++ ([58] : List UInt8)) ++ y2) ++ ([58] : List UInt8)) ++ y3)))) else (cl (digit_Text_m x0.in_) n fun y4 => ck (decide (((x0.host ++ ([58] : List UInt8)) ++ y2).length + y4.length ≤ maxStr)) n (bif (x0.proto == ([117, 100, 112] : List UInt8)) then (ck (decide ((((x0.host ++ ([58] : List UInt8)) ++ y2) ++ y4).length + ([47, 117, 100, 112] : List UInt8).length ≤ maxStr)) n (k ((((x0.host ++ ([58] : List UInt8)) ++ y2) ++ y4) ++ ([47, 117, 100, 112] : List UInt8)))) else k (((x0.host ++ ([58] : List UInt8)) ++ y2) ++ y4)))))) else (bif (!(y2 == ([] : List UInt8))) then (ck (decide (y2.length + ([58] : List UInt8).length ≤ maxStr)) n (cl (digit_Text_m x0.in_) n fun y5 => ck (decide ((y2 ++ ([58] : List UInt8)).length + y5.length ≤ maxStr)) n (bif (x0.proto == ([117, 100, 112] : List UInt8)) then (ck (decide (((y2 ++ ([58] : List UInt8)) ++ y5).length + ([47, 117, 100, 112] : List UInt8).length ≤ maxStr)) n (k (((y2 ++ ([58] : List UInt8)) ++ y5) ++ ([47, 117, 100, 112] : List UInt8)))) else k ((y2 ++ ([58] : List UInt8)) ++ y5)))) else (cl (digit_Text_m x0.in_) n fun y6 => ck (decide (y2.length + y6.length ≤ maxStr)) n (bif (x0.proto == ([117, 100, 112] : List UInt8)) then (ck (decide ((y2 ++ y6).length + ([47, 117, 100, 112] : List UInt8).length ≤ maxStr)) n (k ((y2 ++ y6) ++ ([47, 117, 100, 112] : List UInt8)))) else k (y2 ++ y6))))) else (bif (!(x0.host == ([] : List UInt8))) then (ck (decide (x0.host.length + ([58] : List UInt8).length ≤ maxStr)) n (ck (decide ((x0.host ++ ([58] : List UInt8)).length + ([] : List UInt8).length ≤ maxStr)) n (bif (!(((x0.host ++ ([58] : List UInt8)) ++ ([] : List UInt8)) == ([] : List UInt8))) then (ck (decide (((x0.host ++ ([58] : List UInt8)) ++ ([] : List UInt8)).length + ([58] : List UInt8).length ≤ maxStr)) n (cl (digit_Text_m x0.in_) n fun y7 => ck (decide ((((x0.host ++ ([58] : List UInt8)) ++ ([] : List UInt8)) ++ ([58] : List UInt8)).length + y7.length ≤ maxStr)) n (bif (x0.proto == ([117, 100, 112] : List UInt8)) then (ck (decide (((((x0.host ++ ([58] : List UInt8)) ++ ([] : List UInt8)) ++ ([58] : List UInt8)) ++ y7).length + ([47, 117, 100, 112] : List UInt8).length ≤ maxStr)) n (k (((((x0.host ++ ([58] : List UInt8)) ++ ([] : List UInt8)) ++ ([58] : List UInt8)) ++ y7) ++ ([47, 117, 100, 112] : List UInt8)))) else k ((((x0.host ++ ([58] : List UInt8)) ++ ([] : List UInt8)) ++ ([58] : List UInt8)) ++ y7)))) else (cl (digit_Text_m x0.in_) n fun y8 => ck (decide (((x0.host ++ ([58] : List UInt8)) ++ ([] : List UInt8)).length + y8.length ≤ maxStr)) n (bif (x0.proto == ([117, 100, 112] : List UInt8)) then (ck (decide ((((x0.host ++ ([58] : List UInt8)) ++ ([] : List UInt8)) ++ y8).length + ([47, 117, 100, 112] : List UInt8).length ≤ maxStr)) n (k ((((x0.host ++ ([58] : List UInt8)) ++ ([] : List UInt8)) ++ y8) ++ ([47, 117, 100, 112] : List UInt8)))) else k (((x0.host ++ ([58] : List UInt8)) ++ ([] : List UInt8)) ++ y8)))))) else (bif (!(([] : List UInt8) == ([] : List UInt8))) then (ck (decide (([] : List UInt8).length + ([58] : List UInt8).length ≤ maxStr)) n (cl (digit_Text_m x0.in_) n fun y9 => ck (decide ((([] : List UInt8) ++ ([58] : List UInt8)).length + y9.length ≤ maxStr)) n (bif (x0.proto == ([117, 100, 112] : List UInt8)) then (ck (decide (((([] : List UInt8) ++ ([58] : List UInt8)) ++ y9).length + ([47, 117, 100, 112] : List UInt8).length ≤ maxStr)) n (k (((([] : List UInt8) ++ ([58] : List UInt8)) ++ y9) ++ ([47, 117, 100, 112] : List UInt8)))) else k ((([] : List UInt8) ++ ([58] : List UInt8)) ++ y9)))) else (cl (digit_Text_m x0.in_) n fun y10 => ck (decide (([] : List UInt8).length + y10.length ≤ maxStr)) n (bif (x0.proto == ([117, 100, 112] : List UInt8)) then (ck (decide ((([] : List UInt8) ++ y10).length + ([47, 117, 100, 112] : List UInt8).length ≤ maxStr)) n (k ((([] : List UInt8) ++ y10) ++ ([47, 117, 100, 112] : List UInt8)))) else k (([] : List UInt8) ++ y10))))))
def port_Text_O : Oracle E := orac [(87, digit_Text_W), (109, port_Right_W)]
theorem port_Text_hO : OracleOk E port_Text_O := orac_ok (.cons digit_Text_ok (.cons port_Right_ok .nil)) .nil .nil .nil
def port_Text_H : Hint E := {}
def port_Text_C : port_Text_S → Hd E
  | .e x0 => .e [⟨.api_Port, x0⟩]
theorem port_Text_N : NatT port_Text_t := fun τ k g n s => by cases s <;> simp only [port_Text_t, eA]
theorem port_Text_R : Runs (E := E) .fn port_Text_O Tryz.f73 port_Text_H port_Text_C (encA (E := E) [.str]) port_Text_t := ⟨fun s G => by cases s <;> kernel_rfl, port_Text_N⟩
def port_Text_m (x0 : Port) : Option ((List UInt8)) := mu port_Text_t (.e x0)
def port_Text_W : FnW E := fnG (E := E) [.api_Port] [.str] fun a => port_Text_m a
theorem port_Text_ok : FnOk E 73 port_Text_W := Runs.fn (E := E) (ps := [.api_Port]) (rs := [.str]) port_Text_R port_Text_hO mix ⟨Tryz.func73, by kernel_rfl, by kernel_rfl⟩ (st := fun a => .e a) (fun _ => rfl) fun _ r h => ⟨r, h, rfl⟩
inductive norm_Ports_S where
  | e (x0 : Node)
  | h0 (v0 : List Node) (v1 : Int) (v2 : Int) (v3 : Int) (v4 : List UInt8) (v5 : form)
  | h1 (v0 : List (List UInt8)) (v1 : Int) (v2 : Int) (v3 : Node) (v4 : Int) (v5 : List UInt8) (v6 : form)
def norm_Ports_t : Tree (Node × Int) norm_Ports_S := fun _ k g n s => match s with
  | .e x0 => cl (norm_members_m (etNode x0) (2 : Int)) n fun y1 => bif y1 then g (.h0 x0.kids (x0.kids.length : Int) (0 : Int) (0 : Int) ([] : List UInt8) (⟨(⟨(0 : Int), ([] : List UInt8), ([] : List (List UInt8)), ([] : List Node)⟩ : Node), false⟩ : form)) else (cl (norm_members_m (etNode x0) (3 : Int)) n fun y2 => bif y2 then g (.h1 x0.keys (x0.keys.length : Int) (0 : Int) x0 (0 : Int) ([] : List UInt8) (⟨(⟨(0 : Int), ([] : List UInt8), ([] : List (List UInt8)), ([] : List Node)⟩ : Node), false⟩ : form)) else (cl norm_none_m n fun y3 => k ((etNode (y3.1)), y3.2)))
  | .h0 v0 v1 v2 v3 v4 v5 => bif (decide (v2 < v1)) then (ck (inb v0 v2) n (cl (norm_long_m (etNode (List.getD v0 (Int.toNat v2) (dflt .api_Node)))) n fun y2 => bif ((List.getD v0 (Int.toNat v2) (dflt .api_Node)).kind == (1 : Int)) then (cl (port_Parse_m ((List.getD v0 (Int.toNat v2) (dflt .api_Node)).text)) n fun y3 => cl (norm_form_fail_m (⟨(etNode v5.n), v5.bad⟩ : form) (!(y3.2 == (0 : Int)))) n fun y4 => cl (port_Text_m (y3.1)) n fun y5 => cl (norm_form_put_m (⟨(etNode ((y4.1).n)), (y4.1).bad⟩ : form) y5 (⟨(0 : Int), ([] : List UInt8), ([] : List (List UInt8)), ([] : List Node)⟩ : Node)) n fun y6 => g (.h0 v0 v1 (w64 (v2 + (1 : Int))) v3 v4 (⟨(etNode ((y6.1).n)), (y6.1).bad⟩ : form))) else (cl (norm_form_fail_m (⟨(etNode v5.n), v5.bad⟩ : form) (!y2.2)) n fun y7 => cl (port_Text_m (y2.1)) n fun y8 => cl (norm_form_put_m (⟨(etNode ((y7.1).n)), (y7.1).bad⟩ : form) y8 (⟨(0 : Int), ([] : List UInt8), ([] : List (List UInt8)), ([] : List Node)⟩ : Node)) n fun y9 => g (.h0 v0 v1 (w64 (v2 + (1 : Int))) v3 v4 (⟨(etNode ((y9.1).n)), (y9.1).bad⟩ : form))))) else (cl (norm_form_done_m (⟨(etNode v5.n), v5.bad⟩ : form)) n fun y10 => k ((etNode (y10.2.1)), y10.2.2))
  | .h1 v0 v1 v2 v3 v4 v5 v6 => bif (decide (v2 < v1)) then (ix v0 v2 n fun y1 => cl (port_Parse_m y1) n fun y2 => cl (port_Text_m (y2.1)) n fun y3 => ck ((decide (0 ≤ v2) && decide (v2 < (v3.kids.length : Int))) || !(!(bif (!(y3 == y1)) then true else (y1 == ([] : List UInt8))))) n (cl (norm_form_fail_m (⟨(etNode v6.n), v6.bad⟩ : form) (bif (bif (!(y3 == y1)) then true else (y1 == ([] : List UInt8))) then true else ((List.getD v3.kids (Int.toNat v2) (dflt .api_Node)).kind != (0 : Int)))) n fun y4 => cl (norm_form_put_m (⟨(etNode ((y4.1).n)), (y4.1).bad⟩ : form) y1 (⟨(0 : Int), ([] : List UInt8), ([] : List (List UInt8)), ([] : List Node)⟩ : Node)) n fun y5 => g (.h1 v0 v1 (w64 (v2 + (1 : Int))) v3 v4 v5 (⟨(etNode ((y5.1).n)), (y5.1).bad⟩ : form)))) else (cl (norm_form_done_m (⟨(etNode v6.n), v6.bad⟩ : form)) n fun y6 => k ((etNode (y6.2.1)), y6.2.2))
def norm_Ports_O : Oracle E := withB (orac [(71, norm_long_W), (51, norm_members_W), (66, norm_none_W), (72, port_Parse_W), (73, port_Text_W)]) [(54, norm_form_done_B), (52, norm_form_fail_B), (53, norm_form_put_B)]
theorem norm_Ports_hO : OracleOk E norm_Ports_O := withB_ok (orac_ok (.cons norm_long_ok (.cons norm_members_ok (.cons norm_none_ok (.cons port_Parse_ok (.cons port_Text_ok .nil))))) .nil .nil .nil) (.cons norm_form_done_bok (.cons norm_form_fail_bok (.cons norm_form_put_bok .nil)))
def norm_Ports_H : Hint E := { live := [(0, [2, 4, 21, 22, 23]), (1, [1, 2, 4, 55, 56, 57])], nils := [(0, [(4, some 2, false, .str), (4, some 3, false, .api_Node)]), (1, [(4, some 2, false, .str), (4, some 3, false, .api_Node)])] }
def norm_Ports_C : norm_Ports_S → Hd E
  | .e x0 => .e [⟨.api_Node, x0⟩]
  | .h0 v0 v1 v2 v3 v4 v5 => .h 0 ⟨92, [(2, .ptr 0 0), (4, .ptr 1 0), (21, .d (.slice .api_Node v0)), (22, .d (.int .i64 v1)), (23, .d (.int .i64 v2))], [(0, .box [.d (.int .i64 v3), .d (.str v4), .d (.raw (.slice none 0 0)), .d (.raw (.slice none 0 0))]), (1, .box [.d (.int .i64 v5.n.kind), .d (.str v5.n.text), .d (.slice .str v5.n.keys), .d (.slice .api_Node v5.n.kids), .d (.bool v5.bad)])], 2⟩
  | .h1 v0 v1 v2 v3 v4 v5 v6 => .h 1 ⟨92, [(1, .ptr 0 0), (2, .ptr 1 0), (4, .ptr 2 0), (55, .d (.slice .str v0)), (56, .d (.int .i64 v1)), (57, .d (.int .i64 v2))], [(0, .box [.d (.int .i64 v3.kind), .d (.str v3.text), .d (.slice .str v3.keys), .d (.slice .api_Node v3.kids)]), (1, .box [.d (.int .i64 v4), .d (.str v5), .d (.raw (.slice none 0 0)), .d (.raw (.slice none 0 0))]), (2, .box [.d (.int .i64 v6.n.kind), .d (.str v6.n.text), .d (.slice .str v6.n.keys), .d (.slice .api_Node v6.n.kids), .d (.bool v6.bad)])], 3⟩
theorem norm_Ports_N : NatT norm_Ports_t := fun τ k g n s => by cases s <;> simp only [norm_Ports_t, eA]
theorem norm_Ports_R : Runs (E := E) .fn norm_Ports_O Tryz.f33 norm_Ports_H norm_Ports_C (encA (E := E) [.api_Node, .api_Errno]) norm_Ports_t := ⟨fun s G => by cases s <;> kernel_rfl, norm_Ports_N⟩
def norm_Ports_m (x0 : Node) : Option (Node × Int) := mu norm_Ports_t (.e x0)
def norm_Ports_W : FnW E := fnG (E := E) [.api_Node] [.api_Node, .api_Errno] fun a => norm_Ports_m a
theorem norm_Ports_ok : FnOk E 33 norm_Ports_W := Runs.fn (E := E) (ps := [.api_Node]) (rs := [.api_Node, .api_Errno]) norm_Ports_R norm_Ports_hO mix ⟨Tryz.func33, by kernel_rfl, by kernel_rfl⟩ (st := fun a => .e a) (fun _ => rfl) fun _ r h => ⟨r, h, rfl⟩
inductive norm_field_truth_S where
  | e (x0 : field) (x1 : List UInt8) (x2 : Bool)
def norm_field_truth_t : Tree (field × Bool) norm_field_truth_S := fun _ k _ n s => match s with
  | .e x0 x1 x2 => bif x2 then (cl (norm_field_text_m (⟨(etNode x0.n), x0.left, x0.bad⟩ : field) x1 ([116, 114, 117, 101] : List UInt8)) n fun y1 => k ((⟨(etNode ((y1.1).n)), (y1.1).left, (bif (y1.1).bad then true else (bif (!(y1.2 == ([116, 114, 117, 101] : List UInt8))) then (!(y1.2 == ([102, 97, 108, 115, 101] : List UInt8))) else false))⟩ : field), (y1.2 == ([116, 114, 117, 101] : List UInt8)))) else (cl (norm_field_text_m (⟨(etNode x0.n), x0.left, x0.bad⟩ : field) x1 ([102, 97, 108, 115, 101] : List UInt8)) n fun y2 => k ((⟨(etNode ((y2.1).n)), (y2.1).left, (bif (y2.1).bad then true else (bif (!(y2.2 == ([116, 114, 117, 101] : List UInt8))) then (!(y2.2 == ([102, 97, 108, 115, 101] : List UInt8))) else false))⟩ : field), (y2.2 == ([116, 114, 117, 101] : List UInt8))))
def norm_field_truth_O : Oracle E := withB (orac []) [(80, norm_field_text_B)]
theorem norm_field_truth_hO : OracleOk E norm_field_truth_O := withB_ok (orac_ok .nil .nil .nil .nil) (.cons norm_field_text_bok .nil)
def norm_field_truth_H : Hint E := { own := 1 }
def norm_field_truth_C : norm_field_truth_S → Hd E
  | .e x0 x1 x2 => .e [⟨.norm_field, x0⟩, ⟨.str, x1⟩, ⟨.bool, x2⟩]
theorem norm_field_truth_N : NatT norm_field_truth_t := fun τ k g n s => by cases s <;> simp only [norm_field_truth_t, eA]
theorem norm_field_truth_R : Runs (E := E) (.bx .norm_field) norm_field_truth_O Tryz.f82 norm_field_truth_H norm_field_truth_C (fun r => ⟨.norm_field, r.1⟩ :: encA (E := E) [.bool] r.2) norm_field_truth_t := ⟨fun s G => by cases s <;> kernel_rfl, norm_field_truth_N⟩
def norm_field_truth_m (x0 : field) (x1 : List UInt8) (x2 : Bool) : Option (field × Bool) := mu norm_field_truth_t (.e x0 x1 x2)
def norm_field_truth_B : FnB E := bxG (E := E) .norm_field [.str, .bool] [.bool] fun x a => norm_field_truth_m x a.1 a.2
theorem norm_field_truth_bok : BoxOk E 82 norm_field_truth_B := Runs.bx (E := E) (ps := [.str, .bool]) (rs := [.bool]) norm_field_truth_R norm_field_truth_hO mix (by decide) ⟨Tryz.func82, by kernel_rfl, by kernel_rfl⟩ (st := fun x a => .e x a.1 a.2) (fun _ _ => rfl) fun _ _ r h => ⟨r, h, rfl⟩
inductive mount_path_S where
  | e (x0 : List UInt8)
  | h0 (v0 : List UInt8) (v1 : Int) (v2 : Int)
def mount_path_t : Tree (Bool) mount_path_S := fun _ k g n s => match s with
  | .e x0 => g (.h0 x0 (x0.length : Int) (0 : Int))
  | .h0 v0 v1 v2 => bif (decide (v2 < v1)) then (ixb v0 v2 n fun y1 => bif (bif (bif (bif (bif (decide (y1 < (97 : Int))) then true else (decide ((122 : Int) < y1))) then (bif (decide (y1 < (65 : Int))) then true else (decide ((90 : Int) < y1))) else false) then (bif (decide (y1 < (48 : Int))) then true else (decide ((57 : Int) < y1))) else false) then (decide ((ixbV ([46, 95, 45, 47] : List UInt8) y1) < (0 : Int))) else false) then k false else g (.h0 v0 v1 (w64 (v2 + (1 : Int))))) else k (bif (!(v0 == ([] : List UInt8))) then (decide ((v0.length : Int) ≤ (64 : Int))) else false)
def mount_path_O : Oracle E := orac [(105, sidxb_W)]
theorem mount_path_hO : OracleOk E mount_path_O := orac_ok (.cons sidxb_ok .nil) .nil .nil .nil
def mount_path_H : Hint E := { live := [(0, [0, 6, 7])] }
def mount_path_C : mount_path_S → Hd E
  | .e x0 => .e [⟨.str, x0⟩]
  | .h0 v0 v1 v2 => .h 0 ⟨48, [(0, .d (.str v0)), (6, .d (.int .i64 v1)), (7, .d (.int .i64 v2))], [], 0⟩
theorem mount_path_N : NatT mount_path_t := fun τ k g n s => by cases s <;> simp only [mount_path_t, eA]
theorem mount_path_R : Runs (E := E) .fn mount_path_O Tryz.f142 mount_path_H mount_path_C (encA (E := E) [.bool]) mount_path_t := ⟨fun s G => by cases s <;> kernel_rfl, mount_path_N⟩
def mount_path_m (x0 : List UInt8) : Option (Bool) := mu mount_path_t (.e x0)
def mount_path_W : FnW E := fnG (E := E) [.str] [.bool] fun a => mount_path_m a
theorem mount_path_ok : FnOk E 142 mount_path_W := Runs.fn (E := E) (ps := [.str]) (rs := [.bool]) mount_path_R mount_path_hO mix ⟨Tryz.func142, by kernel_rfl, by kernel_rfl⟩ (st := fun a => .e a) (fun _ => rfl) fun _ r h => ⟨r, h, rfl⟩
inductive mount_volume_S where
  | e (x0 : List UInt8)
def mount_volume_t : Tree (Bool) mount_volume_S := fun _ k _ n s => match s with
  | .e x0 => cl (name_Service_m x0) n fun y1 => k y1
def mount_volume_O : Oracle E := orac [(43, name_Service_W)]
theorem mount_volume_hO : OracleOk E mount_volume_O := orac_ok (.cons name_Service_ok .nil) .nil .nil .nil
def mount_volume_H : Hint E := {}
def mount_volume_C : mount_volume_S → Hd E
  | .e x0 => .e [⟨.str, x0⟩]
theorem mount_volume_N : NatT mount_volume_t := fun τ k g n s => by cases s <;> simp only [mount_volume_t, eA]
theorem mount_volume_R : Runs (E := E) .fn mount_volume_O Tryz.f141 mount_volume_H mount_volume_C (encA (E := E) [.bool]) mount_volume_t := ⟨fun s G => by cases s <;> kernel_rfl, mount_volume_N⟩
def mount_volume_m (x0 : List UInt8) : Option (Bool) := mu mount_volume_t (.e x0)
def mount_volume_W : FnW E := fnG (E := E) [.str] [.bool] fun a => mount_volume_m a
theorem mount_volume_ok : FnOk E 141 mount_volume_W := Runs.fn (E := E) (ps := [.str]) (rs := [.bool]) mount_volume_R mount_volume_hO mix ⟨Tryz.func141, by kernel_rfl, by kernel_rfl⟩ (st := fun a => .e a) (fun _ => rfl) fun _ r h => ⟨r, h, rfl⟩
inductive norm_Set_S where
  | e (x0 : Node)
  | h0 (v0 : List (List UInt8)) (v1 : Bool) (v2 : List Node) (v3 : Int) (v4 : Int) (v5 : Int) (v6 : List UInt8) (v7 : form)
  | h1 (v0 : List (List UInt8)) (v1 : Int) (v2 : Int) (v3 : Int) (v4 : List UInt8) (v5 : form)
def norm_Set_t : Tree (Node × Int) norm_Set_S := fun _ k g n s => match s with
  | .e x0 => cl (norm_texts_m (etNode x0)) n fun y1 => cl (norm_members_m (etNode x0) (3 : Int)) n fun y2 => bif y2 then g (.h0 x0.keys true x0.kids (x0.kids.length : Int) (0 : Int) (0 : Int) ([] : List UInt8) (⟨(⟨(0 : Int), ([] : List UInt8), ([] : List (List UInt8)), ([] : List Node)⟩ : Node), false⟩ : form)) else (cl (norm_form_fail_m (⟨(⟨(0 : Int), ([] : List UInt8), ([] : List (List UInt8)), ([] : List Node)⟩ : Node), false⟩ : form) (!y1.2)) n fun y3 => g (.h1 (y1.1) ((y1.1).length : Int) (0 : Int) (0 : Int) ([] : List UInt8) (⟨(etNode ((y3.1).n)), (y3.1).bad⟩ : form)))
  | .h0 v0 v1 v2 v3 v4 v5 v6 v7 => bif (decide (v4 < v3)) then (ix v2 v4 n fun y1 => cl (norm_form_fail_m (⟨(etNode v7.n), v7.bad⟩ : form) (bif (y1.kind != (0 : Int)) then (bif (y1.kind != (3 : Int)) then true else (decide ((0 : Int) < ((y1.keys).length : Int)))) else false)) n fun y2 => g (.h0 v0 v1 v2 v3 (w64 (v4 + (1 : Int))) v5 v6 (⟨(etNode ((y2.1).n)), (y2.1).bad⟩ : form))) else (cl (norm_form_fail_m (⟨(etNode v7.n), v7.bad⟩ : form) (!v1)) n fun y3 => g (.h1 v0 (v0.length : Int) (0 : Int) v5 v6 (⟨(etNode ((y3.1).n)), (y3.1).bad⟩ : form)))
  | .h1 v0 v1 v2 v3 v4 v5 => bif (decide (v2 < v1)) then (ix v0 v2 n fun y1 => cl (name_Service_m y1) n fun y2 => cl (norm_form_fail_m (⟨(etNode v5.n), v5.bad⟩ : form) (!y2)) n fun y3 => cl (norm_form_put_m (⟨(etNode ((y3.1).n)), (y3.1).bad⟩ : form) y1 (⟨(0 : Int), ([] : List UInt8), ([] : List (List UInt8)), ([] : List Node)⟩ : Node)) n fun y4 => g (.h1 v0 v1 (w64 (v2 + (1 : Int))) v3 v4 (⟨(etNode ((y4.1).n)), (y4.1).bad⟩ : form))) else (cl (norm_form_done_m (⟨(etNode v5.n), v5.bad⟩ : form)) n fun y5 => k ((etNode (y5.2.1)), y5.2.2))
def norm_Set_O : Oracle E := withB (orac [(43, name_Service_W), (51, norm_members_W), (50, norm_texts_W)]) [(54, norm_form_done_B), (52, norm_form_fail_B), (53, norm_form_put_B)]
theorem norm_Set_hO : OracleOk E norm_Set_O := withB_ok (orac_ok (.cons name_Service_ok (.cons norm_members_ok (.cons norm_texts_ok .nil))) .nil .nil .nil) (.cons norm_form_done_bok (.cons norm_form_fail_bok (.cons norm_form_put_bok .nil)))
def norm_Set_H : Hint E := { live := [(0, [2, 4, 5, 6, 21, 22, 23]), (1, [2, 4, 46, 47, 48])], nils := [(0, [(4, some 2, false, .str), (4, some 3, false, .api_Node)])] }
def norm_Set_C : norm_Set_S → Hd E
  | .e x0 => .e [⟨.api_Node, x0⟩]
  | .h0 v0 v1 v2 v3 v4 v5 v6 v7 => .h 0 ⟨63, [(2, .ptr 0 0), (4, .ptr 1 0), (5, .d (.slice .str v0)), (6, .d (.bool v1)), (21, .d (.slice .api_Node v2)), (22, .d (.int .i64 v3)), (23, .d (.int .i64 v4))], [(0, .box [.d (.int .i64 v5), .d (.str v6), .d (.raw (.slice none 0 0)), .d (.raw (.slice none 0 0))]), (1, .box [.d (.int .i64 v7.n.kind), .d (.str v7.n.text), .d (.slice .str v7.n.keys), .d (.slice .api_Node v7.n.kids), .d (.bool v7.bad)])], 2⟩
  | .h1 v0 v1 v2 v3 v4 v5 => .h 1 ⟨63, [(2, .ptr 0 0), (4, .ptr 1 0), (46, .d (.slice .str v0)), (47, .d (.int .i64 v1)), (48, .d (.int .i64 v2))], [(0, .box [.d (.int .i64 v3), .d (.str v4), .d (.raw (.slice none 0 0)), .d (.raw (.slice none 0 0))]), (1, .box [.d (.int .i64 v5.n.kind), .d (.str v5.n.text), .d (.slice .str v5.n.keys), .d (.slice .api_Node v5.n.kids), .d (.bool v5.bad)])], 2⟩
theorem norm_Set_N : NatT norm_Set_t := fun τ k g n s => by cases s <;> simp only [norm_Set_t, eA]
theorem norm_Set_R : Runs (E := E) .fn norm_Set_O Tryz.f21 norm_Set_H norm_Set_C (encA (E := E) [.api_Node, .api_Errno]) norm_Set_t := ⟨fun s G => by cases s <;> kernel_rfl, norm_Set_N⟩
def norm_Set_m (x0 : Node) : Option (Node × Int) := mu norm_Set_t (.e x0)
def norm_Set_W : FnW E := fnG (E := E) [.api_Node] [.api_Node, .api_Errno] fun a => norm_Set_m a
theorem norm_Set_ok : FnOk E 21 norm_Set_W := Runs.fn (E := E) (ps := [.api_Node]) (rs := [.api_Node, .api_Errno]) norm_Set_R norm_Set_hO mix ⟨Tryz.func21, by kernel_rfl, by kernel_rfl⟩ (st := fun a => .e a) (fun _ => rfl) fun _ r h => ⟨r, h, rfl⟩
inductive norm_said_S where
  | e (x0 : Bool)
def norm_said_t : Tree (Node) norm_said_S := fun _ k _ _ s => match s with
  | .e x0 => bif x0 then k (etNode (txt1 ([116, 114, 117, 101] : List UInt8))) else k (etNode (txt1 ([102, 97, 108, 115, 101] : List UInt8)))
def norm_said_O : Oracle E := orac [(70, ntext_W)]
theorem norm_said_hO : OracleOk E norm_said_O := orac_ok (.cons ntext_ok .nil) .nil .nil .nil
def norm_said_H : Hint E := {}
def norm_said_C : norm_said_S → Hd E
  | .e x0 => .e [⟨.bool, x0⟩]
theorem norm_said_N : NatT norm_said_t := fun τ k g n s => by cases s <;> simp only [norm_said_t, eA]
theorem norm_said_R : Runs (E := E) .fn norm_said_O Tryz.f88 norm_said_H norm_said_C (encA (E := E) [.api_Node]) norm_said_t := ⟨fun s G => by cases s <;> kernel_rfl, norm_said_N⟩
def norm_said_m (x0 : Bool) : Option (Node) := mu norm_said_t (.e x0)
def norm_said_W : FnW E := fnG (E := E) [.bool] [.api_Node] fun a => norm_said_m a
theorem norm_said_ok : FnOk E 88 norm_said_W := Runs.fn (E := E) (ps := [.bool]) (rs := [.api_Node]) norm_said_R norm_said_hO mix ⟨Tryz.func88, by kernel_rfl, by kernel_rfl⟩ (st := fun a => .e a) (fun _ => rfl) fun _ r h => ⟨r, h, rfl⟩
inductive node_budget_right_S where
  | e (x0 : budget) (x1 : Node) (x2 : Int)
  | h0 (v0 : Int) (v1 : List Node) (v2 : Int) (v3 : Int) (v4 : Int)
def node_budget_right_t (self : budget → Node → Int → Option (budget × Bool)) : Tree (budget × Bool) node_budget_right_S := fun _ k g n s => match s with
  | .e x0 x1 x2 => bif (bif (decide ((w64 (x0.left - (1 : Int))) < (0 : Int))) then true else (decide ((12 : Int) < x2))) then k ((⟨(w64 (x0.left - (1 : Int)))⟩ : budget), false) else (bif (x1.kind == (0 : Int)) then k ((⟨(w64 (x0.left - (1 : Int)))⟩ : budget), (bif (x1.text == ([] : List UInt8)) then ((w64 ((x1.keys.length : Int) + (x1.kids.length : Int))) == (0 : Int)) else false)) else (bif (x1.kind == (1 : Int)) then k ((⟨(w64 (x0.left - (1 : Int)))⟩ : budget), ((w64 ((x1.keys.length : Int) + (x1.kids.length : Int))) == (0 : Int))) else (bif (x1.kind == (2 : Int)) then (bif (bif (!(x1.text == ([] : List UInt8))) then true else (decide ((0 : Int) < (x1.keys.length : Int)))) then k ((⟨(w64 (x0.left - (1 : Int)))⟩ : budget), false) else g (.h0 x2 x1.kids (x1.kids.length : Int) (0 : Int) (w64 (x0.left - (1 : Int))))) else (bif (x1.kind == (3 : Int)) then (ck ((ln6 x1.keys) || !(!(bif (bif (!(x1.text == ([] : List UInt8))) then true else ((x1.keys.length : Int) != (x1.kids.length : Int))) then true else (decide ((w64 (x0.left - (1 : Int))) < (x1.keys.length : Int)))))) n (bif (bif (bif (bif (!(x1.text == ([] : List UInt8))) then true else ((x1.keys.length : Int) != (x1.kids.length : Int))) then true else (decide ((w64 (x0.left - (1 : Int))) < (x1.keys.length : Int)))) then true else (((Pl.sortD x1.keys).length : Int) != (x1.keys.length : Int))) then k ((⟨(w64 (x0.left - (1 : Int)))⟩ : budget), false) else g (.h0 x2 x1.kids (x1.kids.length : Int) (0 : Int) (w64 (x0.left - (1 : Int)))))) else k ((⟨(w64 (x0.left - (1 : Int)))⟩ : budget), false)))))
  | .h0 v0 v1 v2 v3 v4 => bif (decide (v3 < v2)) then (ix v1 v3 n fun y1 => cl (self (⟨v4⟩ : budget) (etNode y1) (w64 (v0 + (1 : Int)))) n fun y2 => bif (!y2.2) then k ((y2.1), false) else g (.h0 v0 v1 v2 (w64 (v3 + (1 : Int))) ((y2.1).left))) else k ((⟨v4⟩ : budget), true)
def node_budget_right_Bs (self : budget → Node → Int → Option (budget × Bool)) : FnB E := bxG (E := E) .node_budget [.api_Node, .int] [.bool] fun x a => self x a.1 a.2
def node_budget_right_O (self : budget → Node → Int → Option (budget × Bool)) : Oracle E := withB (orac [(25, nsorted_W)]) [(55, node_budget_right_Bs self)]
theorem node_budget_right_hO (self : budget → Node → Int → Option (budget × Bool)) (hs : BoxOk E 55 (node_budget_right_Bs self)) : OracleOk E (node_budget_right_O self) := withB_ok (orac_ok (.cons nsorted_ok .nil) .nil .nil .nil) (.cons hs .nil)
def node_budget_right_H : Hint E := { live := [(0, [0, 2, 98, 99, 100])], own := 1 }
def node_budget_right_C : node_budget_right_S → Hd E
  | .e x0 x1 x2 => .e [⟨.node_budget, x0⟩, ⟨.api_Node, x1⟩, ⟨.int, x2⟩]
  | .h0 v0 v1 v2 v3 v4 => .h 0 ⟨111, [(0, .ptr 0 0), (2, .d (.int .i64 v0)), (98, .d (.slice .api_Node v1)), (99, .d (.int .i64 v2)), (100, .d (.int .i64 v3))], [(0, .box [.d (.int .i64 v4)])], 1⟩
theorem node_budget_right_N (self : budget → Node → Int → Option (budget × Bool)) : NatT (node_budget_right_t self) := fun τ k g n s => by cases s <;> simp only [node_budget_right_t, eA]
theorem node_budget_right_R (self : budget → Node → Int → Option (budget × Bool)) : Runs (E := E) (.bx .node_budget) (node_budget_right_O self) Tryz.f55 node_budget_right_H node_budget_right_C (fun r => ⟨.node_budget, r.1⟩ :: encA (E := E) [.bool] r.2) (node_budget_right_t self) := ⟨fun s G => by cases s <;> kernel_rfl, node_budget_right_N self⟩
def node_budget_right_l (n : Nat) : budget → Node → Int → Option (budget × Bool) := Nat.rec (motive := fun _ => budget → Node → Int → Option (budget × Bool)) (fun _ _ _ => none) (fun _ self x0 x1 x2 => mu (node_budget_right_t self) (.e x0 x1 x2)) n
def node_budget_right_m (x0 : budget) (x1 : Node) (x2 : Int) : Option (budget × Bool) := node_budget_right_l fuelN x0 x1 x2
theorem node_budget_right_bokl (n : Nat) : BoxOk E 55 (node_budget_right_Bs (node_budget_right_l n)) := by
  induction n with
  | zero => exact bxG_none ⟨_, ⟨Tryz.func55, by kernel_rfl, by kernel_rfl⟩⟩
  | succ n ih => exact Runs.bx (E := E) (ps := [.api_Node, .int]) (rs := [.bool]) (node_budget_right_R (node_budget_right_l n)) (node_budget_right_hO _ ih) mix (by decide) ⟨Tryz.func55, by kernel_rfl, by kernel_rfl⟩ (st := fun x a => .e x a.1 a.2) (fun _ _ => rfl) fun _ _ r h => ⟨r, h, rfl⟩
def node_budget_right_B : FnB E := node_budget_right_Bs node_budget_right_m
theorem node_budget_right_bok : BoxOk E 55 node_budget_right_B := node_budget_right_bokl fuelN
inductive node_Right_S where
  | e (x0 : Node)
def node_Right_t : Tree (Bool) node_Right_S := fun _ k _ n s => match s with
  | .e x0 => cl (node_budget_right_m (⟨(2000 : Int)⟩ : budget) (etNode x0) (1 : Int)) n fun y1 => k y1.2
def node_Right_O : Oracle E := withB (orac []) [(55, node_budget_right_B)]
theorem node_Right_hO : OracleOk E node_Right_O := withB_ok (orac_ok .nil .nil .nil .nil) (.cons node_budget_right_bok .nil)
def node_Right_H : Hint E := {}
def node_Right_C : node_Right_S → Hd E
  | .e x0 => .e [⟨.api_Node, x0⟩]
theorem node_Right_N : NatT node_Right_t := fun τ k g n s => by cases s <;> simp only [node_Right_t, eA]
theorem node_Right_R : Runs (E := E) .fn node_Right_O Tryz.f22 node_Right_H node_Right_C (encA (E := E) [.bool]) node_Right_t := ⟨fun s G => by cases s <;> kernel_rfl, node_Right_N⟩
def node_Right_m (x0 : Node) : Option (Bool) := mu node_Right_t (.e x0)
def node_Right_W : FnW E := fnG (E := E) [.api_Node] [.bool] fun a => node_Right_m a
theorem node_Right_ok : FnOk E 22 node_Right_W := Runs.fn (E := E) (ps := [.api_Node]) (rs := [.bool]) node_Right_R node_Right_hO mix ⟨Tryz.func22, by kernel_rfl, by kernel_rfl⟩ (st := fun a => .e a) (fun _ => rfl) fun _ r h => ⟨r, h, rfl⟩
inductive node_Map_S where
  | e (x0 : List (List UInt8)) (x1 : List Node)
def node_Map_t : Tree (Node) node_Map_S := fun _ k _ n s => match s with
  | .e x0 x1 => ck (decide (x0.length * 16 ≤ maxBytes)) n (ck (decide (x1.length * 72 ≤ maxBytes)) n (cl (node_Right_m (⟨(3 : Int), ([] : List UInt8), x0, x1⟩ : Node)) n fun y1 => bif (!y1) then k (⟨(0 : Int), ([] : List UInt8), ([] : List (List UInt8)), ([] : List Node)⟩ : Node) else k (⟨(3 : Int), ([] : List UInt8), x0, x1⟩ : Node)))
def node_Map_O : Oracle E := orac [(22, node_Right_W)] [(59, cloneF 25), (58, cloneF 9)]
theorem node_Map_hO : OracleOk E node_Map_O := orac_ok (.cons node_Right_ok .nil) (.cons (clone_fresh (T := 23) (b := 4) (e := 25) (fn := Tryz.f59) (by kernel_rfl) (by kernel_rfl) (by kernel_rfl) (by kernel_rfl) (by kernel_rfl) (by kernel_rfl)) (.cons (clone_fresh (T := 22) (b := 4) (e := 9) (fn := Tryz.f58) (by kernel_rfl) (by kernel_rfl) (by kernel_rfl) (by kernel_rfl) (by kernel_rfl) (by kernel_rfl)) .nil)) .nil .nil
def node_Map_H : Hint E := {}
def node_Map_C : node_Map_S → Hd E
  | .e x0 x1 => .e [⟨.l_str, x0⟩, ⟨.l_api_Node, x1⟩]
theorem node_Map_N : NatT node_Map_t := fun τ k g n s => by cases s <;> simp only [node_Map_t, eA]
theorem node_Map_R : Runs (E := E) .fn node_Map_O Tryz.f78 node_Map_H node_Map_C (encA (E := E) [.api_Node]) node_Map_t := ⟨fun s G => by cases s <;> kernel_rfl, node_Map_N⟩
def node_Map_m (x0 : List (List UInt8)) (x1 : List Node) : Option (Node) := mu node_Map_t (.e x0 x1)
def node_Map_W : FnW E := fnG (E := E) [.l_str, .l_api_Node] [.api_Node] fun a => node_Map_m a.1 a.2
theorem node_Map_ok : FnOk E 78 node_Map_W := Runs.fn (E := E) (ps := [.l_str, .l_api_Node]) (rs := [.api_Node]) node_Map_R node_Map_hO mix ⟨Tryz.func78, by kernel_rfl, by kernel_rfl⟩ (st := fun a => .e a.1 a.2) (fun _ => rfl) fun _ r h => ⟨r, h, rfl⟩
inductive norm_edge_S where
  | e (x0 : Node)
def norm_edge_t : Tree (Node × Bool) norm_edge_S := fun _ k _ n s => match s with
  | .e x0 => bif (x0.kind == (0 : Int)) then (cl (norm_field_text_m (⟨(⟨(3 : Int), x0.text, x0.keys, x0.kids⟩ : Node), (x0.keys.length : Int), false⟩ : field) ([99, 111, 110, 100, 105, 116, 105, 111, 110] : List UInt8) ([115, 101, 114, 118, 105, 99, 101, 95, 115, 116, 97, 114, 116, 101, 100] : List UInt8)) n fun y1 => cl (norm_field_truth_m (⟨(etNode ((y1.1).n)), (y1.1).left, (y1.1).bad⟩ : field) ([114, 101, 115, 116, 97, 114, 116] : List UInt8) false) n fun y2 => cl (norm_field_truth_m (⟨(etNode ((y2.1).n)), (y2.1).left, (y2.1).bad⟩ : field) ([114, 101, 113, 117, 105, 114, 101, 100] : List UInt8) true) n fun y3 => cl (norm_said_m (y3.2)) n fun y4 => cl (norm_said_m (y2.2)) n fun y5 => cl (node_Map_m ([([99, 111, 110, 100, 105, 116, 105, 111, 110] : List UInt8), ([114, 101, 113, 117, 105, 114, 101, 100] : List UInt8), ([114, 101, 115, 116, 97, 114, 116] : List UInt8)] : List (List UInt8)) ([(txt1 (y1.2)), y4, y5] : List Node)) n fun y6 => k ((etNode y6), (bif (!(bif (y3.1).bad then true else (bif (bif (!(y1.2 == ([115, 101, 114, 118, 105, 99, 101, 95, 115, 116, 97, 114, 116, 101, 100] : List UInt8))) then (!(y1.2 == ([115, 101, 114, 118, 105, 99, 101, 95, 104, 101, 97, 108, 116, 104, 121] : List UInt8))) else false) then (!(y1.2 == ([115, 101, 114, 118, 105, 99, 101, 95, 99, 111, 109, 112, 108, 101, 116, 101, 100, 95, 115, 117, 99, 99, 101, 115, 115, 102, 117, 108, 108, 121] : List UInt8))) else false))) then ((y3.1).left == (0 : Int)) else false))) else (cl (norm_field_text_m (⟨(etNode x0), (x0.keys.length : Int), (x0.kind != (3 : Int))⟩ : field) ([99, 111, 110, 100, 105, 116, 105, 111, 110] : List UInt8) ([115, 101, 114, 118, 105, 99, 101, 95, 115, 116, 97, 114, 116, 101, 100] : List UInt8)) n fun y7 => cl (norm_field_truth_m (⟨(etNode ((y7.1).n)), (y7.1).left, (y7.1).bad⟩ : field) ([114, 101, 115, 116, 97, 114, 116] : List UInt8) false) n fun y8 => cl (norm_field_truth_m (⟨(etNode ((y8.1).n)), (y8.1).left, (y8.1).bad⟩ : field) ([114, 101, 113, 117, 105, 114, 101, 100] : List UInt8) true) n fun y9 => cl (norm_said_m (y9.2)) n fun y10 => cl (norm_said_m (y8.2)) n fun y11 => cl (node_Map_m ([([99, 111, 110, 100, 105, 116, 105, 111, 110] : List UInt8), ([114, 101, 113, 117, 105, 114, 101, 100] : List UInt8), ([114, 101, 115, 116, 97, 114, 116] : List UInt8)] : List (List UInt8)) ([(txt1 (y7.2)), y10, y11] : List Node)) n fun y12 => k ((etNode y12), (bif (!(bif (y9.1).bad then true else (bif (bif (!(y7.2 == ([115, 101, 114, 118, 105, 99, 101, 95, 115, 116, 97, 114, 116, 101, 100] : List UInt8))) then (!(y7.2 == ([115, 101, 114, 118, 105, 99, 101, 95, 104, 101, 97, 108, 116, 104, 121] : List UInt8))) else false) then (!(y7.2 == ([115, 101, 114, 118, 105, 99, 101, 95, 99, 111, 109, 112, 108, 101, 116, 101, 100, 95, 115, 117, 99, 99, 101, 115, 115, 102, 117, 108, 108, 121] : List UInt8))) else false))) then ((y9.1).left == (0 : Int)) else false)))
def norm_edge_O : Oracle E := withB (withI (orac [(78, node_Map_W), (70, ntext_W), (88, norm_said_W)]) [(79, Tryz.f79), (81, Tryz.f81)]) [(80, norm_field_text_B), (82, norm_field_truth_B)]
theorem norm_edge_hO : OracleOk E norm_edge_O := withB_ok (withI_ok (orac_ok (.cons node_Map_ok (.cons ntext_ok (.cons norm_said_ok .nil))) .nil .nil .nil) mix (.cons (f := 79) (fn := Tryz.f79) (by kernel_rfl) (by kernel_rfl) (by kernel_rfl) (.cons (f := 81) (fn := Tryz.f81) (by kernel_rfl) (by kernel_rfl) (by kernel_rfl) .nil))) (.cons norm_field_text_bok (.cons norm_field_truth_bok .nil))
def norm_edge_H : Hint E := {}
def norm_edge_C : norm_edge_S → Hd E
  | .e x0 => .e [⟨.api_Node, x0⟩]
theorem norm_edge_N : NatT norm_edge_t := fun τ k g n s => by cases s <;> simp only [norm_edge_t, eA]
theorem norm_edge_R : Runs (E := E) .fn norm_edge_O Tryz.f77 norm_edge_H norm_edge_C (encA (E := E) [.api_Node, .bool]) norm_edge_t := ⟨fun s G => by cases s <;> kernel_rfl, norm_edge_N⟩
def norm_edge_m (x0 : Node) : Option (Node × Bool) := mu norm_edge_t (.e x0)
def norm_edge_W : FnW E := fnG (E := E) [.api_Node] [.api_Node, .bool] fun a => norm_edge_m a
theorem norm_edge_ok : FnOk E 77 norm_edge_W := Runs.fn (E := E) (ps := [.api_Node]) (rs := [.api_Node, .bool]) norm_edge_R norm_edge_hO mix ⟨Tryz.func77, by kernel_rfl, by kernel_rfl⟩ (st := fun a => .e a) (fun _ => rfl) fun _ r h => ⟨r, h, rfl⟩
inductive norm_Deps_S where
  | e (x0 : Node)
  | h0 (v0 : List (List UInt8)) (v1 : Int) (v2 : Int) (v3 : Node) (v4 : Int) (v5 : List UInt8) (v6 : form)
def norm_Deps_t : Tree (Node × Int) norm_Deps_S := fun _ k g n s => match s with
  | .e x0 => cl (norm_texts_m (etNode x0)) n fun y1 => cl (norm_members_m (etNode x0) (3 : Int)) n fun y2 => bif y2 then (cl (norm_form_fail_m (⟨(⟨(0 : Int), ([] : List UInt8), ([] : List (List UInt8)), ([] : List Node)⟩ : Node), false⟩ : form) (!true)) n fun y3 => g (.h0 x0.keys (x0.keys.length : Int) (0 : Int) x0 (0 : Int) ([] : List UInt8) (⟨(etNode ((y3.1).n)), (y3.1).bad⟩ : form))) else (cl (norm_form_fail_m (⟨(⟨(0 : Int), ([] : List UInt8), ([] : List (List UInt8)), ([] : List Node)⟩ : Node), false⟩ : form) (!y1.2)) n fun y4 => g (.h0 (y1.1) ((y1.1).length : Int) (0 : Int) x0 (0 : Int) ([] : List UInt8) (⟨(etNode ((y4.1).n)), (y4.1).bad⟩ : form)))
  | .h0 v0 v1 v2 v3 v4 v5 v6 => bif (decide (v2 < v1)) then (ix v0 v2 n fun y1 => bif (v3.kind == (3 : Int)) then (ix v3.kids v2 n fun y2 => cl (norm_edge_m (etNode y2)) n fun y3 => ck (((name_Service_m y1).isSome) || !(!(!y3.2))) n (cl (norm_form_fail_m (⟨(etNode v6.n), v6.bad⟩ : form) (bif (!y3.2) then true else (!(gv (name_Service_m y1))))) n fun y4 => cl (norm_form_put_m (⟨(etNode ((y4.1).n)), (y4.1).bad⟩ : form) y1 (etNode (y3.1))) n fun y5 => g (.h0 v0 v1 (w64 (v2 + (1 : Int))) v3 v4 v5 (⟨(etNode ((y5.1).n)), (y5.1).bad⟩ : form)))) else (cl (norm_edge_m (⟨(0 : Int), ([] : List UInt8), ([] : List (List UInt8)), ([] : List Node)⟩ : Node)) n fun y6 => ck (((name_Service_m y1).isSome) || !(!(!y6.2))) n (cl (norm_form_fail_m (⟨(etNode v6.n), v6.bad⟩ : form) (bif (!y6.2) then true else (!(gv (name_Service_m y1))))) n fun y7 => cl (norm_form_put_m (⟨(etNode ((y7.1).n)), (y7.1).bad⟩ : form) y1 (etNode (y6.1))) n fun y8 => g (.h0 v0 v1 (w64 (v2 + (1 : Int))) v3 v4 v5 (⟨(etNode ((y8.1).n)), (y8.1).bad⟩ : form))))) else (cl (norm_form_done_m (⟨(etNode v6.n), v6.bad⟩ : form)) n fun y9 => k ((etNode (y9.2.1)), y9.2.2))
def norm_Deps_O : Oracle E := withB (orac [(43, name_Service_W), (77, norm_edge_W), (51, norm_members_W), (50, norm_texts_W)]) [(54, norm_form_done_B), (52, norm_form_fail_B), (53, norm_form_put_B)]
theorem norm_Deps_hO : OracleOk E norm_Deps_O := withB_ok (orac_ok (.cons name_Service_ok (.cons norm_edge_ok (.cons norm_members_ok (.cons norm_texts_ok .nil)))) .nil .nil .nil) (.cons norm_form_done_bok (.cons norm_form_fail_bok (.cons norm_form_put_bok .nil)))
def norm_Deps_H : Hint E := { live := [(0, [1, 2, 4, 24, 25, 26])] }
def norm_Deps_C : norm_Deps_S → Hd E
  | .e x0 => .e [⟨.api_Node, x0⟩]
  | .h0 v0 v1 v2 v3 v4 v5 v6 => .h 0 ⟨59, [(1, .ptr 0 0), (2, .ptr 1 0), (4, .ptr 2 0), (24, .d (.slice .str v0)), (25, .d (.int .i64 v1)), (26, .d (.int .i64 v2))], [(0, .box [.d (.int .i64 v3.kind), .d (.str v3.text), .d (.slice .str v3.keys), .d (.slice .api_Node v3.kids)]), (1, .box [.d (.int .i64 v4), .d (.str v5), .d (.raw (.slice none 0 0)), .d (.raw (.slice none 0 0))]), (2, .box [.d (.int .i64 v6.n.kind), .d (.str v6.n.text), .d (.slice .str v6.n.keys), .d (.slice .api_Node v6.n.kids), .d (.bool v6.bad)])], 3⟩
theorem norm_Deps_N : NatT norm_Deps_t := fun τ k g n s => by cases s <;> simp only [norm_Deps_t, eA]
theorem norm_Deps_R : Runs (E := E) .fn norm_Deps_O Tryz.f35 norm_Deps_H norm_Deps_C (encA (E := E) [.api_Node, .api_Errno]) norm_Deps_t := ⟨fun s G => by cases s <;> kernel_rfl, norm_Deps_N⟩
def norm_Deps_m (x0 : Node) : Option (Node × Int) := mu norm_Deps_t (.e x0)
def norm_Deps_W : FnW E := fnG (E := E) [.api_Node] [.api_Node, .api_Errno] fun a => norm_Deps_m a
theorem norm_Deps_ok : FnOk E 35 norm_Deps_W := Runs.fn (E := E) (ps := [.api_Node]) (rs := [.api_Node, .api_Errno]) norm_Deps_R norm_Deps_hO mix ⟨Tryz.func35, by kernel_rfl, by kernel_rfl⟩ (st := fun a => .e a) (fun _ => rfl) fun _ r h => ⟨r, h, rfl⟩
inductive norm_Extends_S where
  | e (x0 : Node)
def norm_Extends_t : Tree (Node × Int) norm_Extends_S := fun _ k _ n s => match s with
  | .e x0 => bif (x0.kind == (1 : Int)) then (cl (node_Map_m ([([115, 101, 114, 118, 105, 99, 101] : List UInt8)] : List (List UInt8)) ([(etNode x0)] : List Node)) n fun y1 => cl (norm_field_text_m (⟨(etNode y1), ((y1.keys).length : Int), (y1.kind != (3 : Int))⟩ : field) ([115, 101, 114, 118, 105, 99, 101] : List UInt8) ([] : List UInt8)) n fun y2 => cl (norm_field_text_m (⟨(etNode ((y2.1).n)), (y2.1).left, (y2.1).bad⟩ : field) ([102, 105, 108, 101] : List UInt8) ([120] : List UInt8)) n fun y3 => ck (((name_Service_m (y2.2)).isSome) || !(!(!(bif (!(y3.1).bad) then ((y3.1).left == (0 : Int)) else false)))) n (bif (bif (bif (bif (!(bif (!(y3.1).bad) then ((y3.1).left == (0 : Int)) else false)) then true else (!(gv (name_Service_m (y2.2))))) then true else (y3.2 == ([] : List UInt8))) then true else (decide ((64 : Int) < ((y3.2).length : Int)))) then (cl norm_none_m n fun y4 => k ((etNode (y4.1)), y4.2)) else (ck ((wg 10000 1000) (etNode y1)) n (k ((etNode ((sortP 1000) (etNode y1))), (0 : Int)))))) else (cl (norm_field_text_m (⟨(etNode x0), (x0.keys.length : Int), (x0.kind != (3 : Int))⟩ : field) ([115, 101, 114, 118, 105, 99, 101] : List UInt8) ([] : List UInt8)) n fun y5 => cl (norm_field_text_m (⟨(etNode ((y5.1).n)), (y5.1).left, (y5.1).bad⟩ : field) ([102, 105, 108, 101] : List UInt8) ([120] : List UInt8)) n fun y6 => ck (((name_Service_m (y5.2)).isSome) || !(!(!(bif (!(y6.1).bad) then ((y6.1).left == (0 : Int)) else false)))) n (bif (bif (bif (bif (!(bif (!(y6.1).bad) then ((y6.1).left == (0 : Int)) else false)) then true else (!(gv (name_Service_m (y5.2))))) then true else (y6.2 == ([] : List UInt8))) then true else (decide ((64 : Int) < ((y6.2).length : Int)))) then (cl norm_none_m n fun y7 => k ((etNode (y7.1)), y7.2)) else (ck ((wg 10000 1000) (etNode x0)) n (k ((etNode ((sortP 1000) (etNode x0))), (0 : Int))))))
def norm_Extends_O : Oracle E := withB (withI (orac [(43, name_Service_W), (78, node_Map_W), (27, ndsorted_W 1000), (66, norm_none_W)]) [(79, Tryz.f79), (81, Tryz.f81)]) [(80, norm_field_text_B)]
theorem norm_Extends_hO : OracleOk E norm_Extends_O := withB_ok (withI_ok (orac_ok (.cons name_Service_ok (.cons node_Map_ok (.cons (ndsorted_ok 1000) (.cons norm_none_ok .nil)))) .nil .nil .nil) mix (.cons (f := 79) (fn := Tryz.f79) (by kernel_rfl) (by kernel_rfl) (by kernel_rfl) (.cons (f := 81) (fn := Tryz.f81) (by kernel_rfl) (by kernel_rfl) (by kernel_rfl) .nil))) (.cons norm_field_text_bok .nil)
def norm_Extends_H : Hint E := {}
def norm_Extends_C : norm_Extends_S → Hd E
  | .e x0 => .e [⟨.api_Node, x0⟩]
theorem norm_Extends_N : NatT norm_Extends_t := fun τ k g n s => by cases s <;> simp only [norm_Extends_t, eA]
theorem norm_Extends_R : Runs (E := E) .fn norm_Extends_O Tryz.f36 norm_Extends_H norm_Extends_C (encA (E := E) [.api_Node, .api_Errno]) norm_Extends_t := ⟨fun s G => by cases s <;> kernel_rfl, norm_Extends_N⟩
def norm_Extends_m (x0 : Node) : Option (Node × Int) := mu norm_Extends_t (.e x0)
def norm_Extends_W : FnW E := fnG (E := E) [.api_Node] [.api_Node, .api_Errno] fun a => norm_Extends_m a
theorem norm_Extends_ok : FnOk E 36 norm_Extends_W := Runs.fn (E := E) (ps := [.api_Node]) (rs := [.api_Node, .api_Errno]) norm_Extends_R norm_Extends_hO mix ⟨Tryz.func36, by kernel_rfl, by kernel_rfl⟩ (st := fun a => .e a) (fun _ => rfl) fun _ r h => ⟨r, h, rfl⟩
inductive word_Bare_S where
  | e (x0 : List UInt8)
  | h0 (v0 : List UInt8) (v1 : Int) (v2 : Int)
def word_Bare_t : Tree (Bool) word_Bare_S := fun _ k g n s => match s with
  | .e x0 => g (.h0 x0 (x0.length : Int) (0 : Int))
  | .h0 v0 v1 v2 => bif (decide (v2 < v1)) then (ixb v0 v2 n fun y1 => bif (bif (bif (bif (bif (decide (y1 < (97 : Int))) then true else (decide ((122 : Int) < y1))) then (bif (decide (y1 < (65 : Int))) then true else (decide ((90 : Int) < y1))) else false) then (bif (decide (y1 < (48 : Int))) then true else (decide ((57 : Int) < y1))) else false) then (decide ((ixbV ([46, 95, 45, 47, 58, 61, 44, 43, 64, 37] : List UInt8) y1) < (0 : Int))) else false) then k false else g (.h0 v0 v1 (w64 (v2 + (1 : Int))))) else k (!(v0 == ([] : List UInt8)))
def word_Bare_O : Oracle E := orac [(105, sidxb_W)]
theorem word_Bare_hO : OracleOk E word_Bare_O := orac_ok (.cons sidxb_ok .nil) .nil .nil .nil
def word_Bare_H : Hint E := { live := [(0, [0, 6, 7])] }
def word_Bare_C : word_Bare_S → Hd E
  | .e x0 => .e [⟨.str, x0⟩]
  | .h0 v0 v1 v2 => .h 0 ⟨43, [(0, .d (.str v0)), (6, .d (.int .i64 v1)), (7, .d (.int .i64 v2))], [], 0⟩
theorem word_Bare_N : NatT word_Bare_t := fun τ k g n s => by cases s <;> simp only [word_Bare_t, eA]
theorem word_Bare_R : Runs (E := E) .fn word_Bare_O Tryz.f143 word_Bare_H word_Bare_C (encA (E := E) [.bool]) word_Bare_t := ⟨fun s G => by cases s <;> kernel_rfl, word_Bare_N⟩
def word_Bare_m (x0 : List UInt8) : Option (Bool) := mu word_Bare_t (.e x0)
def word_Bare_W : FnW E := fnG (E := E) [.str] [.bool] fun a => word_Bare_m a
theorem word_Bare_ok : FnOk E 143 word_Bare_W := Runs.fn (E := E) (ps := [.str]) (rs := [.bool]) word_Bare_R word_Bare_hO mix ⟨Tryz.func143, by kernel_rfl, by kernel_rfl⟩ (st := fun a => .e a) (fun _ => rfl) fun _ r h => ⟨r, h, rfl⟩
inductive word_Join_S where
  | e (x0 : List (List UInt8))
  | h0 (v0 : List (List UInt8)) (v1 : List (List UInt8)) (v2 : Int) (v3 : Int)
def word_Join_t : Tree ((List UInt8)) word_Join_S := fun _ k g n s => match s with
  | .e x0 => g (.h0 ([] : List (List UInt8)) x0 (x0.length : Int) (0 : Int))
  | .h0 v0 v1 v2 v3 => bif (decide (v3 < v2)) then (ix v1 v3 n fun y1 => cl (word_Bare_m y1) n fun y2 => bif (!y2) then (ck ((fun s old new => okRe s old new (-1)) y1 ([39] : List UInt8) ([39, 92, 39, 39] : List UInt8)) n (ck (decide (([39] : List UInt8).length + ((fun s old new => reV s old new (-1)) y1 ([39] : List UInt8) ([39, 92, 39, 39] : List UInt8)).length ≤ maxStr)) n (ck (decide ((([39] : List UInt8) ++ ((fun s old new => reV s old new (-1)) y1 ([39] : List UInt8) ([39, 92, 39, 39] : List UInt8))).length + ([39] : List UInt8).length ≤ maxStr)) n (ck (decide ((v0.length + ([((([39] : List UInt8) ++ ((fun s old new => reV s old new (-1)) y1 ([39] : List UInt8) ([39, 92, 39, 39] : List UInt8))) ++ ([39] : List UInt8))] : List (List UInt8)).length) * 16 ≤ maxBytes)) n (g (.h0 (v0 ++ ([((([39] : List UInt8) ++ ((fun s old new => reV s old new (-1)) y1 ([39] : List UInt8) ([39, 92, 39, 39] : List UInt8))) ++ ([39] : List UInt8))] : List (List UInt8))) v1 v2 (w64 (v3 + (1 : Int))))))))) else (ck (decide ((v0.length + ([y1] : List (List UInt8)).length) * 16 ≤ maxBytes)) n (g (.h0 (v0 ++ ([y1] : List (List UInt8))) v1 v2 (w64 (v3 + (1 : Int))))))) else (ck (okJn v0 ([32] : List UInt8)) n (k (Lib.join v0 ([32] : List UInt8))))
def word_Join_O : Oracle E := orac [(143, word_Bare_W), (100, sjoin_W), (144, srall_W)]
theorem word_Join_hO : OracleOk E word_Join_O := orac_ok (.cons word_Bare_ok (.cons sjoin_ok (.cons srall_ok .nil))) .nil .nil .nil
def word_Join_H : Hint E := { live := [(0, [3, 6, 7, 8])], nils := [(0, [(3, none, true, .str)])] }
def word_Join_C : word_Join_S → Hd E
  | .e x0 => .e [⟨.l_str, x0⟩]
  | .h0 v0 v1 v2 v3 => .h 0 ⟨26, [(3, .grow .str v0 0), (6, .d (.slice .str v1)), (7, .d (.int .i64 v2)), (8, .d (.int .i64 v3))], [(0, .tail true)], 1⟩
theorem word_Join_N : NatT word_Join_t := fun τ k g n s => by cases s <;> simp only [word_Join_t, eA]
theorem word_Join_R : Runs (E := E) .fn word_Join_O Tryz.f113 word_Join_H word_Join_C (encA (E := E) [.str]) word_Join_t := ⟨fun s G => by cases s <;> kernel_rfl, word_Join_N⟩
def word_Join_m (x0 : List (List UInt8)) : Option ((List UInt8)) := mu word_Join_t (.e x0)
def word_Join_W : FnW E := fnG (E := E) [.l_str] [.str] fun a => word_Join_m a
theorem word_Join_ok : FnOk E 113 word_Join_W := Runs.fn (E := E) (ps := [.l_str]) (rs := [.str]) word_Join_R word_Join_hO mix ⟨Tryz.func113, by kernel_rfl, by kernel_rfl⟩ (st := fun a => .e a) (fun _ => rfl) fun _ r h => ⟨r, h, rfl⟩
inductive norm_test_S where
  | e (x0 : Node)
def norm_test_t : Tree ((List UInt8) × Bool × Bool) norm_test_S := fun _ k _ n s => match s with
  | .e x0 => bif (x0.kind == (1 : Int)) then k (x0.text, false, true) else (cl (norm_texts_m (etNode x0)) n fun y1 => bif (bif (!y1.2) then true else (((y1.1).length : Int) == (0 : Int))) then k (([] : List UInt8), false, false) else (ix y1.1 (0 : Int) n fun y2 => bif (y2 == ([78, 79, 78, 69] : List UInt8)) then k (([] : List UInt8), true, (((y1.1).length : Int) == (1 : Int))) else (bif (y2 == ([67, 77, 68, 45, 83, 72, 69, 76, 76] : List UInt8)) then (bif (((y1.1).length : Int) == (2 : Int)) then (ix y1.1 (1 : Int) n fun y3 => k (y3, false, true)) else k (([] : List UInt8), false, false)) else (bif (y2 == ([67, 77, 68] : List UInt8)) then (ck (cutOk (y1.1) (1 : Int) ((y1.1).length : Int)) n (cl (word_Join_m (cut (y1.1) (1 : Int) ((y1.1).length : Int))) n fun y4 => k (y4, false, (decide ((1 : Int) < ((y1.1).length : Int)))))) else k (([] : List UInt8), false, false)))))
def norm_test_O : Oracle E := orac [(50, norm_texts_W), (113, word_Join_W)]
theorem norm_test_hO : OracleOk E norm_test_O := orac_ok (.cons norm_texts_ok (.cons word_Join_ok .nil)) .nil .nil .nil
def norm_test_H : Hint E := {}
def norm_test_C : norm_test_S → Hd E
  | .e x0 => .e [⟨.api_Node, x0⟩]
theorem norm_test_N : NatT norm_test_t := fun τ k g n s => by cases s <;> simp only [norm_test_t, eA]
theorem norm_test_R : Runs (E := E) .fn norm_test_O Tryz.f83 norm_test_H norm_test_C (encA (E := E) [.str, .bool, .bool]) norm_test_t := ⟨fun s G => by cases s <;> kernel_rfl, norm_test_N⟩
def norm_test_m (x0 : Node) : Option ((List UInt8) × Bool × Bool) := mu norm_test_t (.e x0)
def norm_test_W : FnW E := fnG (E := E) [.api_Node] [.str, .bool, .bool] fun a => norm_test_m a
theorem norm_test_ok : FnOk E 83 norm_test_W := Runs.fn (E := E) (ps := [.api_Node]) (rs := [.str, .bool, .bool]) norm_test_R norm_test_hO mix ⟨Tryz.func83, by kernel_rfl, by kernel_rfl⟩ (st := fun a => .e a) (fun _ => rfl) fun _ r h => ⟨r, h, rfl⟩
inductive dur_figures_S where
  | e (x0 : List UInt8)
  | h0 (v0 : List UInt8) (v1 : Int)
def dur_figures_t : Tree (Int) dur_figures_S := fun _ k g n s => match s with
  | .e x0 => g (.h0 x0 (0 : Int))
  | .h0 v0 v1 => ck ((decide (0 ≤ v1) && decide (v1 < (v0.length : Int))) || !(decide (v1 < (v0.length : Int)))) n (ck ((decide (0 ≤ v1) && decide (v1 < (v0.length : Int))) || !(bif (decide (v1 < (v0.length : Int))) then (decide ((48 : Int) ≤ (((List.getD v0 (Int.toNat v1) 0).toNat : Nat) : Int))) else false)) n (bif (bif (bif (decide (v1 < (v0.length : Int))) then (decide ((48 : Int) ≤ (((List.getD v0 (Int.toNat v1) 0).toNat : Nat) : Int))) else false) then (decide ((((List.getD v0 (Int.toNat v1) 0).toNat : Nat) : Int) ≤ (57 : Int))) else false) then g (.h0 v0 (w64 (v1 + (1 : Int)))) else k v1))
def dur_figures_O : Oracle E := orac []
theorem dur_figures_hO : OracleOk E dur_figures_O := orac_ok .nil .nil .nil .nil
def dur_figures_H : Hint E := { live := [(0, [0, 3])] }
def dur_figures_C : dur_figures_S → Hd E
  | .e x0 => .e [⟨.str, x0⟩]
  | .h0 v0 v1 => .h 0 ⟨23, [(0, .d (.str v0)), (3, .d (.int .i64 v1))], [], 0⟩
theorem dur_figures_N : NatT dur_figures_t := fun τ k g n s => by cases s <;> simp only [dur_figures_t, eA]
theorem dur_figures_R : Runs (E := E) .fn dur_figures_O Tryz.f114 dur_figures_H dur_figures_C (encA (E := E) [.int]) dur_figures_t := ⟨fun s G => by cases s <;> kernel_rfl, dur_figures_N⟩
def dur_figures_m (x0 : List UInt8) : Option (Int) := mu dur_figures_t (.e x0)
def dur_figures_W : FnW E := fnG (E := E) [.str] [.int] fun a => dur_figures_m a
theorem dur_figures_ok : FnOk E 114 dur_figures_W := Runs.fn (E := E) (ps := [.str]) (rs := [.int]) dur_figures_R dur_figures_hO mix ⟨Tryz.func114, by kernel_rfl, by kernel_rfl⟩ (st := fun a => .e a) (fun _ => rfl) fun _ r h => ⟨r, h, rfl⟩
inductive dur_unit_S where
  | e (x0 : List UInt8)
def dur_unit_t : Tree (Int × Int × Int) dur_unit_S := fun _ k _ n s => match s with
  | .e x0 => bif (x0 == ([] : List UInt8)) then k ((0 : Int), (0 : Int), (0 : Int)) else (ixb x0 (0 : Int) n fun y1 => bif (y1 == (104 : Int)) then k ((1 : Int), (3600000 : Int), (1 : Int)) else (bif (y1 == (109 : Int)) then (ck ((decide (0 ≤ (1 : Int)) && decide ((1 : Int) < (x0.length : Int))) || !(!(decide ((x0.length : Int) < (2 : Int))))) n (bif (bif (decide ((x0.length : Int) < (2 : Int))) then true else ((((List.getD x0 (Int.toNat (1 : Int)) 0).toNat : Nat) : Int) != (115 : Int))) then k ((2 : Int), (60000 : Int), (1 : Int)) else k ((4 : Int), (1 : Int), (2 : Int)))) else (bif (y1 == (115 : Int)) then k ((3 : Int), (1000 : Int), (1 : Int)) else k ((0 : Int), (0 : Int), (0 : Int)))))
def dur_unit_O : Oracle E := orac []
theorem dur_unit_hO : OracleOk E dur_unit_O := orac_ok .nil .nil .nil .nil
def dur_unit_H : Hint E := {}
def dur_unit_C : dur_unit_S → Hd E
  | .e x0 => .e [⟨.str, x0⟩]
theorem dur_unit_N : NatT dur_unit_t := fun τ k g n s => by cases s <;> simp only [dur_unit_t, eA]
theorem dur_unit_R : Runs (E := E) .fn dur_unit_O Tryz.f115 dur_unit_H dur_unit_C (encA (E := E) [.int, .int, .int]) dur_unit_t := ⟨fun s G => by cases s <;> kernel_rfl, dur_unit_N⟩
def dur_unit_m (x0 : List UInt8) : Option (Int × Int × Int) := mu dur_unit_t (.e x0)
def dur_unit_W : FnW E := fnG (E := E) [.str] [.int, .int, .int] fun a => dur_unit_m a
theorem dur_unit_ok : FnOk E 115 dur_unit_W := Runs.fn (E := E) (ps := [.str]) (rs := [.int, .int, .int]) dur_unit_R dur_unit_hO mix ⟨Tryz.func115, by kernel_rfl, by kernel_rfl⟩ (st := fun a => .e a) (fun _ => rfl) fun _ r h => ⟨r, h, rfl⟩
inductive dur_Parse_S where
  | e (x0 : List UInt8)
  | h0 (v0 : List UInt8) (v1 : Int) (v2 : Int) (v3 : Bool) (v4 : Int)
def dur_Parse_t : Tree (Int × Int) dur_Parse_S := fun _ k g n s => match s with
  | .e x0 => g (.h0 x0 (0 : Int) (0 : Int) false (0 : Int))
  | .h0 v0 v1 v2 v3 v4 => bif (bif (decide (v4 < (v0.length : Int))) then true else (v2 == (0 : Int))) then (ck (cutOk v0 v4 (v0.length : Int)) n (cl (dur_figures_m (cut v0 v4 (v0.length : Int))) n fun y1 => ck (cutOk v0 v4 (w64 (v4 + y1))) n (cl (digit_Count_m (cut v0 v4 (w64 (v4 + y1))) (1099511627776 : Int)) n fun y2 => ck (cutOk v0 (w64 (v4 + y1)) (v0.length : Int)) n (cl (dur_unit_m (cut v0 (w64 (v4 + y1)) (v0.length : Int))) n fun y3 => bif (bif (bif (y2.2 == (3 : Int)) then true else (y3.2.2 == (0 : Int))) then true else (decide (y3.1 ≤ v2))) then k ((0 : Int), (3 : Int)) else (bif (bif (bif (y2.2 == (0 : Int)) then (y2.1 == (0 : Int)) else false) then (bif (decide ((0 : Int) < v2)) then true else (decide ((w64 ((w64 (v4 + y1)) + y3.2.2)) < (v0.length : Int)))) else false) then k ((0 : Int), (3 : Int)) else (ck ((!(y3.2.1 == (0 : Int))) || !(!(bif v3 then true else (y2.2 != (0 : Int))))) n (bif (!(bif (bif v3 then true else (y2.2 != (0 : Int))) then true else (decide ((w64 (Int.tdiv (w64 ((1099511627776 : Int) - v1)) y3.2.1)) < y2.1)))) then g (.h0 v0 (w64 (v1 + (w64 (y2.1 * y3.2.1)))) (y3.1) (bif (bif v3 then true else (y2.2 != (0 : Int))) then true else (decide ((w64 (Int.tdiv (w64 ((1099511627776 : Int) - v1)) y3.2.1)) < y2.1))) (w64 ((w64 (v4 + y1)) + y3.2.2))) else g (.h0 v0 v1 (y3.1) (bif (bif v3 then true else (y2.2 != (0 : Int))) then true else (decide ((w64 (Int.tdiv (w64 ((1099511627776 : Int) - v1)) y3.2.1)) < y2.1))) (w64 ((w64 (v4 + y1)) + y3.2.2)))))))))) else (bif v3 then k ((0 : Int), (9 : Int)) else k (v1, (0 : Int)))
def dur_Parse_O : Oracle E := orac [(91, digit_Count_W), (114, dur_figures_W), (115, dur_unit_W)]
theorem dur_Parse_hO : OracleOk E dur_Parse_O := orac_ok (.cons digit_Count_ok (.cons dur_figures_ok (.cons dur_unit_ok .nil))) .nil .nil .nil
def dur_Parse_H : Hint E := { live := [(0, [0, 4, 5, 6, 7])] }
def dur_Parse_C : dur_Parse_S → Hd E
  | .e x0 => .e [⟨.str, x0⟩]
  | .h0 v0 v1 v2 v3 v4 => .h 0 ⟨105, [(0, .d (.str v0)), (4, .d (.int .i64 v1)), (5, .d (.int .i64 v2)), (6, .d (.bool v3)), (7, .d (.int .i64 v4))], [], 0⟩
theorem dur_Parse_N : NatT dur_Parse_t := fun τ k g n s => by cases s <;> simp only [dur_Parse_t, eA]
theorem dur_Parse_R : Runs (E := E) .fn dur_Parse_O Tryz.f84 dur_Parse_H dur_Parse_C (encA (E := E) [.int, .api_Errno]) dur_Parse_t := ⟨fun s G => by cases s <;> kernel_rfl, dur_Parse_N⟩
def dur_Parse_m (x0 : List UInt8) : Option (Int × Int) := mu dur_Parse_t (.e x0)
def dur_Parse_W : FnW E := fnG (E := E) [.str] [.int, .api_Errno] fun a => dur_Parse_m a
theorem dur_Parse_ok : FnOk E 84 dur_Parse_W := Runs.fn (E := E) (ps := [.str]) (rs := [.int, .api_Errno]) dur_Parse_R dur_Parse_hO mix ⟨Tryz.func84, by kernel_rfl, by kernel_rfl⟩ (st := fun a => .e a) (fun _ => rfl) fun _ r h => ⟨r, h, rfl⟩
inductive dur_Text_S where
  | e (x0 : Int)
  | h0 (v0 : Int) (v1 : List UInt8) (v2 : Arr121) (v3 : Int)
def dur_Text_t : Tree ((List UInt8)) dur_Text_S := fun _ k g n s => match s with
  | .e x0 => bif (bif (decide (x0 < (0 : Int))) then true else (decide ((1099511627776 : Int) < x0))) then k ([] : List UInt8) else (bif (x0 == (0 : Int)) then k ([48, 115] : List UInt8) else g (.h0 x0 ([] : List UInt8) (⟨(⟨(3600000 : Int), ([104] : List UInt8)⟩ : St120), (⟨(60000 : Int), ([109] : List UInt8)⟩ : St120), (⟨(1000 : Int), ([115] : List UInt8)⟩ : St120), (⟨(1 : Int), ([109, 115] : List UInt8)⟩ : St120)⟩ : Arr121) (0 : Int)))
  | .h0 v0 v1 v2 v3 => bif (decide (v3 < (4 : Int))) then (ck (decide (0 ≤ v3) && decide (v3 < (4 : Int))) n (ck (!((List.getD ([v2.e0, v2.e1, v2.e2, v2.e3] : List St120) (Int.toNat v3) (dflt .st120)).long == (0 : Int))) n (bif (decide ((0 : Int) < (w64 (Int.tdiv v0 (List.getD ([v2.e0, v2.e1, v2.e2, v2.e3] : List St120) (Int.toNat v3) (dflt .st120)).long)))) then (cl (digit_Text_m (w64 (Int.tdiv v0 (List.getD ([v2.e0, v2.e1, v2.e2, v2.e3] : List St120) (Int.toNat v3) (dflt .st120)).long))) n fun y1 => ck (decide (y1.length + ((List.getD ([v2.e0, v2.e1, v2.e2, v2.e3] : List St120) (Int.toNat v3) (dflt .st120)).name).length ≤ maxStr)) n (ck (decide (v1.length + (y1 ++ (List.getD ([v2.e0, v2.e1, v2.e2, v2.e3] : List St120) (Int.toNat v3) (dflt .st120)).name).length ≤ maxStr)) n (g (.h0 (w64 (v0 - (w64 ((w64 (Int.tdiv v0 (List.getD ([v2.e0, v2.e1, v2.e2, v2.e3] : List St120) (Int.toNat v3) (dflt .st120)).long)) * (List.getD ([v2.e0, v2.e1, v2.e2, v2.e3] : List St120) (Int.toNat v3) (dflt .st120)).long)))) (v1 ++ (y1 ++ (List.getD ([v2.e0, v2.e1, v2.e2, v2.e3] : List St120) (Int.toNat v3) (dflt .st120)).name)) v2 (w64 (v3 + (1 : Int))))))) else g (.h0 v0 v1 v2 (w64 (v3 + (1 : Int))))))) else k v1
def dur_Text_O : Oracle E := orac [(87, digit_Text_W)]
theorem dur_Text_hO : OracleOk E dur_Text_O := orac_ok (.cons digit_Text_ok .nil) .nil .nil .nil
def dur_Text_H : Hint E := { live := [(0, [0, 3, 21, 22])] }
def dur_Text_C : dur_Text_S → Hd E
  | .e x0 => .e [⟨.int, x0⟩]
  | .h0 v0 v1 v2 v3 => .h 0 ⟨46, [(0, .d (.int .i64 v0)), (3, .d (.str v1)), (21, .st .a4_st120 v2), (22, .d (.int .i64 v3))], [], 0⟩
theorem dur_Text_N : NatT dur_Text_t := fun τ k g n s => by cases s <;> simp only [dur_Text_t, eA]
theorem dur_Text_R : Runs (E := E) .fn dur_Text_O Tryz.f85 dur_Text_H dur_Text_C (encA (E := E) [.str]) dur_Text_t := ⟨fun s G => by cases s <;> kernel_rfl, dur_Text_N⟩
def dur_Text_m (x0 : Int) : Option ((List UInt8)) := mu dur_Text_t (.e x0)
def dur_Text_W : FnW E := fnG (E := E) [.int] [.str] fun a => dur_Text_m a
theorem dur_Text_ok : FnOk E 85 dur_Text_W := Runs.fn (E := E) (ps := [.int]) (rs := [.str]) dur_Text_R dur_Text_hO mix ⟨Tryz.func85, by kernel_rfl, by kernel_rfl⟩ (st := fun a => .e a) (fun _ => rfl) fun _ r h => ⟨r, h, rfl⟩
inductive norm_Health_S where
  | e (x0 : Node)
  | h0 (v0 : Bool) (v1 : List (List UInt8)) (v2 : Int) (v3 : Int) (v4 : Node) (v5 : Int) (v6 : List UInt8) (v7 : form) (v8 : field)
def norm_Health_t : Tree (Node × Int) norm_Health_S := fun _ k g n s => match s with
  | .e x0 => cl (norm_field_truth_m (⟨(etNode x0), (x0.keys.length : Int), (x0.kind != (3 : Int))⟩ : field) ([100, 105, 115, 97, 98, 108, 101] : List UInt8) false) n fun y1 => ck ((fun n _ => fit n) (etNode x0) ([116, 101, 115, 116] : List UInt8)) n (bif (getB (etNode x0) ([116, 101, 115, 116] : List UInt8)) then (cl (norm_test_m (etNode (getV (etNode x0) ([116, 101, 115, 116] : List UInt8)))) n fun y2 => cl (norm_form_put_m (⟨(⟨(0 : Int), ([] : List UInt8), ([] : List (List UInt8)), ([] : List Node)⟩ : Node), false⟩ : form) ([116, 101, 115, 116] : List UInt8) (txt1 (y2.1))) n fun y3 => g (.h0 (bif y1.2 then true else y2.2.1) ([([105, 110, 116, 101, 114, 118, 97, 108] : List UInt8), ([115, 116, 97, 114, 116, 95, 112, 101, 114, 105, 111, 100] : List UInt8)] : List (List UInt8)) (([([105, 110, 116, 101, 114, 118, 97, 108] : List UInt8), ([115, 116, 97, 114, 116, 95, 112, 101, 114, 105, 111, 100] : List UInt8)] : List (List UInt8)).length : Int) (0 : Int) x0 (0 : Int) ([] : List UInt8) (⟨(etNode ((y3.1).n)), (y3.1).bad⟩ : form) (⟨(etNode ((y1.1).n)), (w64 ((y1.1).left - (1 : Int))), (bif (y1.1).bad then true else (!y2.2.2))⟩ : field))) else g (.h0 (y1.2) ([([105, 110, 116, 101, 114, 118, 97, 108] : List UInt8), ([115, 116, 97, 114, 116, 95, 112, 101, 114, 105, 111, 100] : List UInt8)] : List (List UInt8)) (([([105, 110, 116, 101, 114, 118, 97, 108] : List UInt8), ([115, 116, 97, 114, 116, 95, 112, 101, 114, 105, 111, 100] : List UInt8)] : List (List UInt8)).length : Int) (0 : Int) x0 (0 : Int) ([] : List UInt8) (⟨(⟨(0 : Int), ([] : List UInt8), ([] : List (List UInt8)), ([] : List Node)⟩ : Node), false⟩ : form) (⟨(etNode ((y1.1).n)), (y1.1).left, (y1.1).bad⟩ : field)))
  | .h0 v0 v1 v2 v3 v4 v5 v6 v7 v8 => bif (decide (v3 < v2)) then (ix v1 v3 n fun y1 => cl (norm_field_text_m (⟨(etNode v8.n), v8.left, v8.bad⟩ : field) y1 ([49, 115] : List UInt8)) n fun y2 => cl (dur_Parse_m (y2.2)) n fun y3 => ck ((fun n _ => fit n) (etNode v4) y1) n (bif (getB (etNode v4) y1) then (cl (dur_Text_m (y3.1)) n fun y4 => cl (norm_form_put_m (⟨(etNode v7.n), v7.bad⟩ : form) y1 (txt1 y4)) n fun y5 => g (.h0 v0 v1 v2 (w64 (v3 + (1 : Int))) v4 v5 v6 (⟨(etNode ((y5.1).n)), (y5.1).bad⟩ : form) (⟨(etNode ((y2.1).n)), (y2.1).left, (bif (bif (y2.1).bad then true else (y3.2 != (0 : Int))) then true else (bif (y1 == ([105, 110, 116, 101, 114, 118, 97, 108] : List UInt8)) then (y3.1 == (0 : Int)) else false))⟩ : field))) else g (.h0 v0 v1 v2 (w64 (v3 + (1 : Int))) v4 v5 v6 (⟨(etNode v7.n), v7.bad⟩ : form) (⟨(etNode ((y2.1).n)), (y2.1).left, (bif (bif (y2.1).bad then true else (y3.2 != (0 : Int))) then true else (bif (y1 == ([105, 110, 116, 101, 114, 118, 97, 108] : List UInt8)) then (y3.1 == (0 : Int)) else false))⟩ : field)))) else (cl (norm_field_count_m (⟨(etNode v8.n), v8.left, v8.bad⟩ : field) ([114, 101, 116, 114, 105, 101, 115] : List UInt8)) n fun y6 => bif (decide ((0 : Int) < y6.2)) then (cl (digit_Text_m (y6.2)) n fun y7 => cl (norm_form_put_m (⟨(etNode v7.n), v7.bad⟩ : form) ([114, 101, 116, 114, 105, 101, 115] : List UInt8) (txt1 y7)) n fun y8 => bif (!(bif (!(bif (y6.1).bad then true else (decide ((10 : Int) < y6.2)))) then ((y6.1).left == (0 : Int)) else false)) then (cl norm_none_m n fun y9 => k ((etNode (y9.1)), y9.2)) else (bif v0 then (cl (norm_said_m true) n fun y10 => cl (norm_form_put_m (⟨(⟨(0 : Int), ([] : List UInt8), ([] : List (List UInt8)), ([] : List Node)⟩ : Node), false⟩ : form) ([100, 105, 115, 97, 98, 108, 101] : List UInt8) y10) n fun y11 => cl (norm_form_done_m (⟨(etNode ((y11.1).n)), (y11.1).bad⟩ : form)) n fun y12 => k ((etNode (y12.2.1)), y12.2.2)) else (cl (norm_form_done_m (⟨(etNode ((y8.1).n)), (y8.1).bad⟩ : form)) n fun y13 => k ((etNode (y13.2.1)), y13.2.2)))) else (bif (!(bif (!(y6.1).bad) then ((y6.1).left == (0 : Int)) else false)) then (cl norm_none_m n fun y14 => k ((etNode (y14.1)), y14.2)) else (bif v0 then (cl (norm_said_m true) n fun y15 => cl (norm_form_put_m (⟨(⟨(0 : Int), ([] : List UInt8), ([] : List (List UInt8)), ([] : List Node)⟩ : Node), false⟩ : form) ([100, 105, 115, 97, 98, 108, 101] : List UInt8) y15) n fun y16 => cl (norm_form_done_m (⟨(etNode ((y16.1).n)), (y16.1).bad⟩ : form)) n fun y17 => k ((etNode (y17.2.1)), y17.2.2)) else (cl (norm_form_done_m (⟨(etNode v7.n), v7.bad⟩ : form)) n fun y18 => k ((etNode (y18.2.1)), y18.2.2)))))
def norm_Health_O : Oracle E := withB (withI (orac [(87, digit_Text_W), (84, dur_Parse_W), (85, dur_Text_W), (61, nget_W), (70, ntext_W), (66, norm_none_W), (88, norm_said_W), (83, norm_test_W)]) [(79, Tryz.f79), (81, Tryz.f81)]) [(86, norm_field_count_B), (80, norm_field_text_B), (82, norm_field_truth_B), (54, norm_form_done_B), (53, norm_form_put_B)]
theorem norm_Health_hO : OracleOk E norm_Health_O := withB_ok (withI_ok (orac_ok (.cons digit_Text_ok (.cons dur_Parse_ok (.cons dur_Text_ok (.cons nget_ok (.cons ntext_ok (.cons norm_none_ok (.cons norm_said_ok (.cons norm_test_ok .nil)))))))) .nil .nil .nil) mix (.cons (f := 79) (fn := Tryz.f79) (by kernel_rfl) (by kernel_rfl) (by kernel_rfl) (.cons (f := 81) (fn := Tryz.f81) (by kernel_rfl) (by kernel_rfl) (by kernel_rfl) .nil))) (.cons norm_field_count_bok (.cons norm_field_text_bok (.cons norm_field_truth_bok (.cons norm_form_done_bok (.cons norm_form_put_bok .nil)))))
def norm_Health_H : Hint E := { live := [(0, [1, 2, 4, 5, 6, 61, 62, 63])], nils := [(0, [(4, some 2, false, .str), (4, some 3, false, .api_Node)])] }
def norm_Health_C : norm_Health_S → Hd E
  | .e x0 => .e [⟨.api_Node, x0⟩]
  | .h0 v0 v1 v2 v3 v4 v5 v6 v7 v8 => .h 0 ⟨139, [(1, .ptr 0 0), (2, .ptr 1 0), (4, .ptr 2 0), (5, .ptr 3 0), (6, .d (.bool v0)), (61, .d (.slice .str v1)), (62, .d (.int .i64 v2)), (63, .d (.int .i64 v3))], [(0, .box [.d (.int .i64 v4.kind), .d (.str v4.text), .d (.slice .str v4.keys), .d (.slice .api_Node v4.kids)]), (1, .box [.d (.int .i64 v5), .d (.str v6), .d (.raw (.slice none 0 0)), .d (.raw (.slice none 0 0))]), (2, .box [.d (.int .i64 v7.n.kind), .d (.str v7.n.text), .d (.slice .str v7.n.keys), .d (.slice .api_Node v7.n.kids), .d (.bool v7.bad)]), (3, .box [.d (.int .i64 v8.n.kind), .d (.str v8.n.text), .d (.slice .str v8.n.keys), .d (.slice .api_Node v8.n.kids), .d (.int .i64 v8.left), .d (.bool v8.bad)])], 4⟩
theorem norm_Health_N : NatT norm_Health_t := fun τ k g n s => by cases s <;> simp only [norm_Health_t, eA]
theorem norm_Health_R : Runs (E := E) .fn norm_Health_O Tryz.f37 norm_Health_H norm_Health_C (encA (E := E) [.api_Node, .api_Errno]) norm_Health_t := ⟨fun s G => by cases s <;> kernel_rfl, norm_Health_N⟩
def norm_Health_m (x0 : Node) : Option (Node × Int) := mu norm_Health_t (.e x0)
def norm_Health_W : FnW E := fnG (E := E) [.api_Node] [.api_Node, .api_Errno] fun a => norm_Health_m a
theorem norm_Health_ok : FnOk E 37 norm_Health_W := Runs.fn (E := E) (ps := [.api_Node]) (rs := [.api_Node, .api_Errno]) norm_Health_R norm_Health_hO mix ⟨Tryz.func37, by kernel_rfl, by kernel_rfl⟩ (st := fun a => .e a) (fun _ => rfl) fun _ r h => ⟨r, h, rfl⟩
inductive internal_stringslite_CutPrefix_S where
  | e (x0 : List UInt8) (x1 : List UInt8)
def internal_stringslite_CutPrefix_t : Tree ((List UInt8) × Bool) internal_stringslite_CutPrefix_S := fun _ k _ n s => match s with
  | .e x0 x1 => cl (internal_stringslite_HasPrefix_m x0 x1) n fun y1 => bif (!y1) then k (x0, false) else (ck (cutOk x0 (x1.length : Int) (x0.length : Int)) n (k ((cut x0 (x1.length : Int) (x0.length : Int)), true)))
def internal_stringslite_CutPrefix_O : Oracle E := orac [(62, internal_stringslite_HasPrefix_W)]
theorem internal_stringslite_CutPrefix_hO : OracleOk E internal_stringslite_CutPrefix_O := orac_ok (.cons internal_stringslite_HasPrefix_ok .nil) .nil .nil .nil
def internal_stringslite_CutPrefix_H : Hint E := {}
def internal_stringslite_CutPrefix_C : internal_stringslite_CutPrefix_S → Hd E
  | .e x0 x1 => .e [⟨.str, x0⟩, ⟨.str, x1⟩]
theorem internal_stringslite_CutPrefix_N : NatT internal_stringslite_CutPrefix_t := fun τ k g n s => by cases s <;> simp only [internal_stringslite_CutPrefix_t, eA]
theorem internal_stringslite_CutPrefix_R : Runs (E := E) .fn internal_stringslite_CutPrefix_O Tryz.f116 internal_stringslite_CutPrefix_H internal_stringslite_CutPrefix_C (encA (E := E) [.str, .bool]) internal_stringslite_CutPrefix_t := ⟨fun s G => by cases s <;> kernel_rfl, internal_stringslite_CutPrefix_N⟩
def internal_stringslite_CutPrefix_m (x0 : List UInt8) (x1 : List UInt8) : Option ((List UInt8) × Bool) := mu internal_stringslite_CutPrefix_t (.e x0 x1)
def internal_stringslite_CutPrefix_W : FnW E := fnG (E := E) [.str, .str] [.str, .bool] fun a => internal_stringslite_CutPrefix_m a.1 a.2
theorem internal_stringslite_CutPrefix_ok : FnOk E 116 internal_stringslite_CutPrefix_W := Runs.fn (E := E) (ps := [.str, .str]) (rs := [.str, .bool]) internal_stringslite_CutPrefix_R internal_stringslite_CutPrefix_hO mix ⟨Tryz.func116, by kernel_rfl, by kernel_rfl⟩ (st := fun a => .e a.1 a.2) (fun _ => rfl) fun _ r h => ⟨r, h, rfl⟩
inductive strings_CutPrefix_S where
  | e (x0 : List UInt8) (x1 : List UInt8)
def strings_CutPrefix_t : Tree ((List UInt8) × Bool) strings_CutPrefix_S := fun _ k _ n s => match s with
  | .e x0 x1 => cl (internal_stringslite_CutPrefix_m x0 x1) n fun y1 => k (y1.1, y1.2)
def strings_CutPrefix_O : Oracle E := orac [(116, internal_stringslite_CutPrefix_W)]
theorem strings_CutPrefix_hO : OracleOk E strings_CutPrefix_O := orac_ok (.cons internal_stringslite_CutPrefix_ok .nil) .nil .nil .nil
def strings_CutPrefix_H : Hint E := {}
def strings_CutPrefix_C : strings_CutPrefix_S → Hd E
  | .e x0 x1 => .e [⟨.str, x0⟩, ⟨.str, x1⟩]
theorem strings_CutPrefix_N : NatT strings_CutPrefix_t := fun τ k g n s => by cases s <;> simp only [strings_CutPrefix_t, eA]
theorem strings_CutPrefix_R : Runs (E := E) .fn strings_CutPrefix_O Tryz.f90 strings_CutPrefix_H strings_CutPrefix_C (encA (E := E) [.str, .bool]) strings_CutPrefix_t := ⟨fun s G => by cases s <;> kernel_rfl, strings_CutPrefix_N⟩
def strings_CutPrefix_m (x0 : List UInt8) (x1 : List UInt8) : Option ((List UInt8) × Bool) := mu strings_CutPrefix_t (.e x0 x1)
def strings_CutPrefix_W : FnW E := fnG (E := E) [.str, .str] [.str, .bool] fun a => strings_CutPrefix_m a.1 a.2
theorem strings_CutPrefix_ok : FnOk E 90 strings_CutPrefix_W := Runs.fn (E := E) (ps := [.str, .str]) (rs := [.str, .bool]) strings_CutPrefix_R strings_CutPrefix_hO mix ⟨Tryz.func90, by kernel_rfl, by kernel_rfl⟩ (st := fun a => .e a.1 a.2) (fun _ => rfl) fun _ r h => ⟨r, h, rfl⟩
inductive norm_Restart_1_S where
  | e (x0 : List UInt8)
def norm_Restart_1_t : Tree (Bool) norm_Restart_1_S := fun _ k _ n s => match s with
  | .e x0 => cl (strings_CutPrefix_m x0 ([111, 110, 45, 102, 97, 105, 108, 117, 114, 101, 58] : List UInt8)) n fun y1 => bif y1.2 then (cl (digit_Count_m (y1.1) (10 : Int)) n fun y2 => k (bif (y2.2 == (0 : Int)) then (decide ((0 : Int) < y2.1)) else false)) else k (bif (bif (bif (x0 == ([110, 111] : List UInt8)) then true else (x0 == ([97, 108, 119, 97, 121, 115] : List UInt8))) then true else (x0 == ([117, 110, 108, 101, 115, 115, 45, 115, 116, 111, 112, 112, 101, 100] : List UInt8))) then true else (x0 == ([111, 110, 45, 102, 97, 105, 108, 117, 114, 101] : List UInt8)))
def norm_Restart_1_O : Oracle E := orac [(91, digit_Count_W), (90, strings_CutPrefix_W)]
theorem norm_Restart_1_hO : OracleOk E norm_Restart_1_O := orac_ok (.cons digit_Count_ok (.cons strings_CutPrefix_ok .nil)) .nil .nil .nil
def norm_Restart_1_H : Hint E := {}
def norm_Restart_1_C : norm_Restart_1_S → Hd E
  | .e x0 => .e [⟨.str, x0⟩]
theorem norm_Restart_1_N : NatT norm_Restart_1_t := fun τ k g n s => by cases s <;> simp only [norm_Restart_1_t, eA]
theorem norm_Restart_1_R : Runs (E := E) .fn norm_Restart_1_O Tryz.f89 norm_Restart_1_H norm_Restart_1_C (encA (E := E) [.bool]) norm_Restart_1_t := ⟨fun s G => by cases s <;> kernel_rfl, norm_Restart_1_N⟩
def norm_Restart_1_m (x0 : List UInt8) : Option (Bool) := mu norm_Restart_1_t (.e x0)
def norm_Restart_1_W : FnW E := fnG (E := E) [.str] [.bool] fun a => norm_Restart_1_m a
theorem norm_Restart_1_ok : FnOk E 89 norm_Restart_1_W := Runs.fn (E := E) (ps := [.str]) (rs := [.bool]) norm_Restart_1_R norm_Restart_1_hO mix ⟨Tryz.func89, by kernel_rfl, by kernel_rfl⟩ (st := fun a => .e a) (fun _ => rfl) fun _ r h => ⟨r, h, rfl⟩
inductive norm_text__norm_Restart_1_S where
  | e (x0 : Node)
def norm_text__norm_Restart_1_t : Tree (Node × Int) norm_text__norm_Restart_1_S := fun _ k _ n s => match s with
  | .e x0 => ck (((norm_Restart_1_m x0.text).isSome) || !(!(x0.kind != (1 : Int)))) n (bif (bif (x0.kind != (1 : Int)) then true else (!(gv (norm_Restart_1_m x0.text)))) then (cl norm_none_m n fun y1 => k ((etNode (y1.1)), y1.2)) else k ((etNode x0), (0 : Int)))
def norm_text__norm_Restart_1_O : Oracle E := orac [(89, norm_Restart_1_W), (66, norm_none_W)]
theorem norm_text__norm_Restart_1_hO : OracleOk E norm_text__norm_Restart_1_O := orac_ok (.cons norm_Restart_1_ok (.cons norm_none_ok .nil)) .nil .nil .nil
def norm_text__norm_Restart_1_H : Hint E := {}
def norm_text__norm_Restart_1_C : norm_text__norm_Restart_1_S → Hd E
  | .e x0 => .c [.v ⟨.api_Node, x0⟩, .c 89 [] []]
theorem norm_text__norm_Restart_1_N : NatT norm_text__norm_Restart_1_t := fun τ k g n s => by cases s <;> simp only [norm_text__norm_Restart_1_t, eA]
theorem norm_text__norm_Restart_1_R : Runs (E := E) .fn norm_text__norm_Restart_1_O Tryz.f63 norm_text__norm_Restart_1_H norm_text__norm_Restart_1_C (encA (E := E) [.api_Node, .api_Errno]) norm_text__norm_Restart_1_t := ⟨fun s G => by cases s <;> kernel_rfl, norm_text__norm_Restart_1_N⟩
def norm_text__norm_Restart_1_m (x0 : Node) : Option (Node × Int) := mu norm_text__norm_Restart_1_t (.e x0)
def norm_text__norm_Restart_1_A : FnP E := fnP (E := E) [.v .api_Node, .c 89 [] []] [.api_Node, .api_Errno] fun a => norm_text__norm_Restart_1_m a
theorem norm_text__norm_Restart_1_aok : AOk E 63 norm_text__norm_Restart_1_A := Runs.cl (E := E) (sh := [.v .api_Node, .c 89 [] []]) (rs := [.api_Node, .api_Errno]) norm_text__norm_Restart_1_R norm_text__norm_Restart_1_hO mix ⟨Tryz.func63, by kernel_rfl, by kernel_rfl⟩ (st := fun a => .e a) (fun _ => rfl) fun _ r h => ⟨r, h, rfl⟩
inductive norm_Restart_S where
  | e (x0 : Node)
def norm_Restart_t : Tree (Node × Int) norm_Restart_S := fun _ k _ n s => match s with
  | .e x0 => cl (norm_text__norm_Restart_1_m (etNode x0)) n fun y1 => k ((etNode (y1.1)), y1.2)
def norm_Restart_O : Oracle E := withA (orac []) [(63, norm_text__norm_Restart_1_A)]
theorem norm_Restart_hO : OracleOk E norm_Restart_O := withA_ok (orac_ok .nil .nil .nil .nil) (.cons norm_text__norm_Restart_1_aok .nil)
def norm_Restart_H : Hint E := {}
def norm_Restart_C : norm_Restart_S → Hd E
  | .e x0 => .e [⟨.api_Node, x0⟩]
theorem norm_Restart_N : NatT norm_Restart_t := fun τ k g n s => by cases s <;> simp only [norm_Restart_t, eA]
theorem norm_Restart_R : Runs (E := E) .fn norm_Restart_O Tryz.f38 norm_Restart_H norm_Restart_C (encA (E := E) [.api_Node, .api_Errno]) norm_Restart_t := ⟨fun s G => by cases s <;> kernel_rfl, norm_Restart_N⟩
def norm_Restart_m (x0 : Node) : Option (Node × Int) := mu norm_Restart_t (.e x0)
def norm_Restart_W : FnW E := fnG (E := E) [.api_Node] [.api_Node, .api_Errno] fun a => norm_Restart_m a
theorem norm_Restart_ok : FnOk E 38 norm_Restart_W := Runs.fn (E := E) (ps := [.api_Node]) (rs := [.api_Node, .api_Errno]) norm_Restart_R norm_Restart_hO mix ⟨Tryz.func38, by kernel_rfl, by kernel_rfl⟩ (st := fun a => .e a) (fun _ => rfl) fun _ r h => ⟨r, h, rfl⟩
inductive norm_Count_1_S where
  | e (x0 : List UInt8)
def norm_Count_1_t : Tree (Bool) norm_Count_1_S := fun _ k _ n s => match s with
  | .e x0 => cl (digit_Count_m x0 (8 : Int)) n fun y1 => k (y1.2 == (0 : Int))
def norm_Count_1_O : Oracle E := orac [(91, digit_Count_W)]
theorem norm_Count_1_hO : OracleOk E norm_Count_1_O := orac_ok (.cons digit_Count_ok .nil) .nil .nil .nil
def norm_Count_1_H : Hint E := {}
def norm_Count_1_C : norm_Count_1_S → Hd E
  | .e x0 => .e [⟨.str, x0⟩]
theorem norm_Count_1_N : NatT norm_Count_1_t := fun τ k g n s => by cases s <;> simp only [norm_Count_1_t, eA]
theorem norm_Count_1_R : Runs (E := E) .fn norm_Count_1_O Tryz.f92 norm_Count_1_H norm_Count_1_C (encA (E := E) [.bool]) norm_Count_1_t := ⟨fun s G => by cases s <;> kernel_rfl, norm_Count_1_N⟩
def norm_Count_1_m (x0 : List UInt8) : Option (Bool) := mu norm_Count_1_t (.e x0)
def norm_Count_1_W : FnW E := fnG (E := E) [.str] [.bool] fun a => norm_Count_1_m a
theorem norm_Count_1_ok : FnOk E 92 norm_Count_1_W := Runs.fn (E := E) (ps := [.str]) (rs := [.bool]) norm_Count_1_R norm_Count_1_hO mix ⟨Tryz.func92, by kernel_rfl, by kernel_rfl⟩ (st := fun a => .e a) (fun _ => rfl) fun _ r h => ⟨r, h, rfl⟩
inductive norm_text__norm_Count_1_S where
  | e (x0 : Node)
def norm_text__norm_Count_1_t : Tree (Node × Int) norm_text__norm_Count_1_S := fun _ k _ n s => match s with
  | .e x0 => ck (((norm_Count_1_m x0.text).isSome) || !(!(x0.kind != (1 : Int)))) n (bif (bif (x0.kind != (1 : Int)) then true else (!(gv (norm_Count_1_m x0.text)))) then (cl norm_none_m n fun y1 => k ((etNode (y1.1)), y1.2)) else k ((etNode x0), (0 : Int)))
def norm_text__norm_Count_1_O : Oracle E := orac [(92, norm_Count_1_W), (66, norm_none_W)]
theorem norm_text__norm_Count_1_hO : OracleOk E norm_text__norm_Count_1_O := orac_ok (.cons norm_Count_1_ok (.cons norm_none_ok .nil)) .nil .nil .nil
def norm_text__norm_Count_1_H : Hint E := {}
def norm_text__norm_Count_1_C : norm_text__norm_Count_1_S → Hd E
  | .e x0 => .c [.v ⟨.api_Node, x0⟩, .c 92 [] []]
theorem norm_text__norm_Count_1_N : NatT norm_text__norm_Count_1_t := fun τ k g n s => by cases s <;> simp only [norm_text__norm_Count_1_t, eA]
theorem norm_text__norm_Count_1_R : Runs (E := E) .fn norm_text__norm_Count_1_O Tryz.f63 norm_text__norm_Count_1_H norm_text__norm_Count_1_C (encA (E := E) [.api_Node, .api_Errno]) norm_text__norm_Count_1_t := ⟨fun s G => by cases s <;> kernel_rfl, norm_text__norm_Count_1_N⟩
def norm_text__norm_Count_1_m (x0 : Node) : Option (Node × Int) := mu norm_text__norm_Count_1_t (.e x0)
def norm_text__norm_Count_1_A : FnP E := fnP (E := E) [.v .api_Node, .c 92 [] []] [.api_Node, .api_Errno] fun a => norm_text__norm_Count_1_m a
theorem norm_text__norm_Count_1_aok : AOk E 63 norm_text__norm_Count_1_A := Runs.cl (E := E) (sh := [.v .api_Node, .c 92 [] []]) (rs := [.api_Node, .api_Errno]) norm_text__norm_Count_1_R norm_text__norm_Count_1_hO mix ⟨Tryz.func63, by kernel_rfl, by kernel_rfl⟩ (st := fun a => .e a) (fun _ => rfl) fun _ r h => ⟨r, h, rfl⟩
inductive norm_Count_S where
  | e (x0 : Node)
def norm_Count_t : Tree (Node × Int) norm_Count_S := fun _ k _ n s => match s with
  | .e x0 => cl (norm_text__norm_Count_1_m (etNode x0)) n fun y1 => k ((etNode (y1.1)), y1.2)
def norm_Count_O : Oracle E := withA (orac []) [(63, norm_text__norm_Count_1_A)]
theorem norm_Count_hO : OracleOk E norm_Count_O := withA_ok (orac_ok .nil .nil .nil .nil) (.cons norm_text__norm_Count_1_aok .nil)
def norm_Count_H : Hint E := {}
def norm_Count_C : norm_Count_S → Hd E
  | .e x0 => .e [⟨.api_Node, x0⟩]
theorem norm_Count_N : NatT norm_Count_t := fun τ k g n s => by cases s <;> simp only [norm_Count_t, eA]
theorem norm_Count_R : Runs (E := E) .fn norm_Count_O Tryz.f39 norm_Count_H norm_Count_C (encA (E := E) [.api_Node, .api_Errno]) norm_Count_t := ⟨fun s G => by cases s <;> kernel_rfl, norm_Count_N⟩
def norm_Count_m (x0 : Node) : Option (Node × Int) := mu norm_Count_t (.e x0)
def norm_Count_W : FnW E := fnG (E := E) [.api_Node] [.api_Node, .api_Errno] fun a => norm_Count_m a
theorem norm_Count_ok : FnOk E 39 norm_Count_W := Runs.fn (E := E) (ps := [.api_Node]) (rs := [.api_Node, .api_Errno]) norm_Count_R norm_Count_hO mix ⟨Tryz.func39, by kernel_rfl, by kernel_rfl⟩ (st := fun a => .e a) (fun _ => rfl) fun _ r h => ⟨r, h, rfl⟩
inductive digit_split_S where
  | e (x0 : List UInt8)
  | h0 (v0 : List UInt8) (v1 : Int) (v2 : Int)
def digit_split_t : Tree ((List UInt8) × (List UInt8) × Bool) digit_split_S := fun _ k g n s => match s with
  | .e x0 => g (.h0 x0 (x0.length : Int) (0 : Int))
  | .h0 v0 v1 v2 => bif (decide (v2 < v1)) then (ixb v0 v2 n fun y1 => bif (y1 == (46 : Int)) then (ck (cutOk v0 (0 : Int) v2) n (ck (cutOk v0 (w64 (v2 + (1 : Int))) (v0.length : Int)) n (k ((cut v0 (0 : Int) v2), (cut v0 (w64 (v2 + (1 : Int))) (v0.length : Int)), true)))) else g (.h0 v0 v1 (w64 (v2 + (1 : Int))))) else k (v0, ([] : List UInt8), false)
def digit_split_O : Oracle E := orac []
theorem digit_split_hO : OracleOk E digit_split_O := orac_ok .nil .nil .nil .nil
def digit_split_H : Hint E := { live := [(0, [0, 7, 8])] }
def digit_split_C : digit_split_S → Hd E
  | .e x0 => .e [⟨.str, x0⟩]
  | .h0 v0 v1 v2 => .h 0 ⟨24, [(0, .d (.str v0)), (7, .d (.int .i64 v1)), (8, .d (.int .i64 v2))], [], 0⟩
theorem digit_split_N : NatT digit_split_t := fun τ k g n s => by cases s <;> simp only [digit_split_t, eA]
theorem digit_split_R : Runs (E := E) .fn digit_split_O Tryz.f118 digit_split_H digit_split_C (encA (E := E) [.str, .str, .bool]) digit_split_t := ⟨fun s G => by cases s <;> kernel_rfl, digit_split_N⟩
def digit_split_m (x0 : List UInt8) : Option ((List UInt8) × (List UInt8) × Bool) := mu digit_split_t (.e x0)
def digit_split_W : FnW E := fnG (E := E) [.str] [.str, .str, .bool] fun a => digit_split_m a
theorem digit_split_ok : FnOk E 118 digit_split_W := Runs.fn (E := E) (ps := [.str]) (rs := [.str, .str, .bool]) digit_split_R digit_split_hO mix ⟨Tryz.func118, by kernel_rfl, by kernel_rfl⟩ (st := fun a => .e a) (fun _ => rfl) fun _ r h => ⟨r, h, rfl⟩
inductive digit_Milli_S where
  | e (x0 : List UInt8)
  | h0 (v0 : List UInt8) (v1 : List UInt8) (v2 : Int) (v3 : Int)
def digit_Milli_t : Tree (Int × Int) digit_Milli_S := fun _ k g n s => match s with
  | .e x0 => cl (digit_split_m x0) n fun y1 => bif y1.2.2 then (ck ((decide (0 ≤ (w64 (((y1.2.1).length : Int) - (1 : Int)))) && decide ((w64 (((y1.2.1).length : Int) - (1 : Int))) < ((y1.2.1).length : Int))) || !(!(bif (decide (((y1.2.1).length : Int) < (1 : Int))) then true else (decide ((3 : Int) < ((y1.2.1).length : Int)))))) n (bif (bif (bif (decide (((y1.2.1).length : Int) < (1 : Int))) then true else (decide ((3 : Int) < ((y1.2.1).length : Int)))) then true else ((((List.getD (y1.2.1) (Int.toNat (w64 (((y1.2.1).length : Int) - (1 : Int)))) 0).toNat : Nat) : Int) == (48 : Int))) then k ((0 : Int), (3 : Int)) else g (.h0 (y1.1) (y1.2.1) (0 : Int) (0 : Int)))) else g (.h0 (y1.1) (y1.2.1) (0 : Int) (0 : Int))
  | .h0 v0 v1 v2 v3 => bif (decide (v3 < (3 : Int))) then (bif (decide ((v1.length : Int) ≤ v3)) then g (.h0 v0 v1 (w64 (v2 * (10 : Int))) (w64 (v3 + (1 : Int)))) else (ixb v1 v3 n fun y1 => ck ((decide (0 ≤ v3) && decide (v3 < (v1.length : Int))) || !(!(decide (y1 < (48 : Int))))) n (bif (bif (decide (y1 < (48 : Int))) then true else (decide ((57 : Int) < y1))) then k ((0 : Int), (3 : Int)) else (ck (inb v1 v3) n (g (.h0 v0 v1 (w64 ((w64 (v2 * (10 : Int))) + (w64 (IntKind.wrap .u8 (y1 - (48 : Int)))))) (w64 (v3 + (1 : Int))))))))) else (cl (digit_whole_m v0 (9007199254740 : Int)) n fun y3 => bif (y3.2 != (0 : Int)) then k ((0 : Int), y3.2) else (bif (decide ((w64 ((9007199254740992 : Int) - v2)) < (w64 (y3.1 * (1000 : Int))))) then k ((0 : Int), (9 : Int)) else k ((w64 ((w64 (y3.1 * (1000 : Int))) + v2)), (0 : Int))))
def digit_Milli_O : Oracle E := orac [(118, digit_split_W), (117, digit_whole_W)]
theorem digit_Milli_hO : OracleOk E digit_Milli_O := orac_ok (.cons digit_split_ok (.cons digit_whole_ok .nil)) .nil .nil .nil
def digit_Milli_H : Hint E := { live := [(0, [4, 5, 7, 34])] }
def digit_Milli_C : digit_Milli_S → Hd E
  | .e x0 => .e [⟨.str, x0⟩]
  | .h0 v0 v1 v2 v3 => .h 0 ⟨80, [(4, .d (.str v0)), (5, .d (.str v1)), (7, .d (.int .i64 v2)), (34, .d (.int .i64 v3))], [], 0⟩
theorem digit_Milli_N : NatT digit_Milli_t := fun τ k g n s => by cases s <;> simp only [digit_Milli_t, eA]
theorem digit_Milli_R : Runs (E := E) .fn digit_Milli_O Tryz.f94 digit_Milli_H digit_Milli_C (encA (E := E) [.int, .api_Errno]) digit_Milli_t := ⟨fun s G => by cases s <;> kernel_rfl, digit_Milli_N⟩
def digit_Milli_m (x0 : List UInt8) : Option (Int × Int) := mu digit_Milli_t (.e x0)
def digit_Milli_W : FnW E := fnG (E := E) [.str] [.int, .api_Errno] fun a => digit_Milli_m a
theorem digit_Milli_ok : FnOk E 94 digit_Milli_W := Runs.fn (E := E) (ps := [.str]) (rs := [.int, .api_Errno]) digit_Milli_R digit_Milli_hO mix ⟨Tryz.func94, by kernel_rfl, by kernel_rfl⟩ (st := fun a => .e a) (fun _ => rfl) fun _ r h => ⟨r, h, rfl⟩
inductive norm_Cpus_1_S where
  | e (x0 : List UInt8)
def norm_Cpus_1_t : Tree (Bool) norm_Cpus_1_S := fun _ k _ n s => match s with
  | .e x0 => cl (digit_Milli_m x0) n fun y1 => k (bif (y1.2 == (0 : Int)) then (decide ((0 : Int) < y1.1)) else false)
def norm_Cpus_1_O : Oracle E := orac [(94, digit_Milli_W)]
theorem norm_Cpus_1_hO : OracleOk E norm_Cpus_1_O := orac_ok (.cons digit_Milli_ok .nil) .nil .nil .nil
def norm_Cpus_1_H : Hint E := {}
def norm_Cpus_1_C : norm_Cpus_1_S → Hd E
  | .e x0 => .e [⟨.str, x0⟩]
theorem norm_Cpus_1_N : NatT norm_Cpus_1_t := fun τ k g n s => by cases s <;> simp only [norm_Cpus_1_t, eA]
theorem norm_Cpus_1_R : Runs (E := E) .fn norm_Cpus_1_O Tryz.f93 norm_Cpus_1_H norm_Cpus_1_C (encA (E := E) [.bool]) norm_Cpus_1_t := ⟨fun s G => by cases s <;> kernel_rfl, norm_Cpus_1_N⟩
def norm_Cpus_1_m (x0 : List UInt8) : Option (Bool) := mu norm_Cpus_1_t (.e x0)
def norm_Cpus_1_W : FnW E := fnG (E := E) [.str] [.bool] fun a => norm_Cpus_1_m a
theorem norm_Cpus_1_ok : FnOk E 93 norm_Cpus_1_W := Runs.fn (E := E) (ps := [.str]) (rs := [.bool]) norm_Cpus_1_R norm_Cpus_1_hO mix ⟨Tryz.func93, by kernel_rfl, by kernel_rfl⟩ (st := fun a => .e a) (fun _ => rfl) fun _ r h => ⟨r, h, rfl⟩
inductive norm_text__norm_Cpus_1_S where
  | e (x0 : Node)
def norm_text__norm_Cpus_1_t : Tree (Node × Int) norm_text__norm_Cpus_1_S := fun _ k _ n s => match s with
  | .e x0 => ck (((norm_Cpus_1_m x0.text).isSome) || !(!(x0.kind != (1 : Int)))) n (bif (bif (x0.kind != (1 : Int)) then true else (!(gv (norm_Cpus_1_m x0.text)))) then (cl norm_none_m n fun y1 => k ((etNode (y1.1)), y1.2)) else k ((etNode x0), (0 : Int)))
def norm_text__norm_Cpus_1_O : Oracle E := orac [(93, norm_Cpus_1_W), (66, norm_none_W)]
theorem norm_text__norm_Cpus_1_hO : OracleOk E norm_text__norm_Cpus_1_O := orac_ok (.cons norm_Cpus_1_ok (.cons norm_none_ok .nil)) .nil .nil .nil
def norm_text__norm_Cpus_1_H : Hint E := {}
def norm_text__norm_Cpus_1_C : norm_text__norm_Cpus_1_S → Hd E
  | .e x0 => .c [.v ⟨.api_Node, x0⟩, .c 93 [] []]
theorem norm_text__norm_Cpus_1_N : NatT norm_text__norm_Cpus_1_t := fun τ k g n s => by cases s <;> simp only [norm_text__norm_Cpus_1_t, eA]
theorem norm_text__norm_Cpus_1_R : Runs (E := E) .fn norm_text__norm_Cpus_1_O Tryz.f63 norm_text__norm_Cpus_1_H norm_text__norm_Cpus_1_C (encA (E := E) [.api_Node, .api_Errno]) norm_text__norm_Cpus_1_t := ⟨fun s G => by cases s <;> kernel_rfl, norm_text__norm_Cpus_1_N⟩
def norm_text__norm_Cpus_1_m (x0 : Node) : Option (Node × Int) := mu norm_text__norm_Cpus_1_t (.e x0)
def norm_text__norm_Cpus_1_A : FnP E := fnP (E := E) [.v .api_Node, .c 93 [] []] [.api_Node, .api_Errno] fun a => norm_text__norm_Cpus_1_m a
theorem norm_text__norm_Cpus_1_aok : AOk E 63 norm_text__norm_Cpus_1_A := Runs.cl (E := E) (sh := [.v .api_Node, .c 93 [] []]) (rs := [.api_Node, .api_Errno]) norm_text__norm_Cpus_1_R norm_text__norm_Cpus_1_hO mix ⟨Tryz.func63, by kernel_rfl, by kernel_rfl⟩ (st := fun a => .e a) (fun _ => rfl) fun _ r h => ⟨r, h, rfl⟩
inductive norm_Cpus_S where
  | e (x0 : Node)
def norm_Cpus_t : Tree (Node × Int) norm_Cpus_S := fun _ k _ n s => match s with
  | .e x0 => cl (norm_text__norm_Cpus_1_m (etNode x0)) n fun y1 => k ((etNode (y1.1)), y1.2)
def norm_Cpus_O : Oracle E := withA (orac []) [(63, norm_text__norm_Cpus_1_A)]
theorem norm_Cpus_hO : OracleOk E norm_Cpus_O := withA_ok (orac_ok .nil .nil .nil .nil) (.cons norm_text__norm_Cpus_1_aok .nil)
def norm_Cpus_H : Hint E := {}
def norm_Cpus_C : norm_Cpus_S → Hd E
  | .e x0 => .e [⟨.api_Node, x0⟩]
theorem norm_Cpus_N : NatT norm_Cpus_t := fun τ k g n s => by cases s <;> simp only [norm_Cpus_t, eA]
theorem norm_Cpus_R : Runs (E := E) .fn norm_Cpus_O Tryz.f40 norm_Cpus_H norm_Cpus_C (encA (E := E) [.api_Node, .api_Errno]) norm_Cpus_t := ⟨fun s G => by cases s <;> kernel_rfl, norm_Cpus_N⟩
def norm_Cpus_m (x0 : Node) : Option (Node × Int) := mu norm_Cpus_t (.e x0)
def norm_Cpus_W : FnW E := fnG (E := E) [.api_Node] [.api_Node, .api_Errno] fun a => norm_Cpus_m a
theorem norm_Cpus_ok : FnOk E 40 norm_Cpus_W := Runs.fn (E := E) (ps := [.api_Node]) (rs := [.api_Node, .api_Errno]) norm_Cpus_R norm_Cpus_hO mix ⟨Tryz.func40, by kernel_rfl, by kernel_rfl⟩ (st := fun a => .e a) (fun _ => rfl) fun _ r h => ⟨r, h, rfl⟩
inductive size_unit_S where
  | e (x0 : List UInt8)
def size_unit_t : Tree (Int × Bool) size_unit_S := fun _ k _ n s => match s with
  | .e x0 => ck ((decide (0 ≤ (1 : Int)) && decide ((1 : Int) < (x0.length : Int))) || !((x0.length : Int) == (2 : Int))) n (ck ((decide (0 ≤ (0 : Int)) && decide ((0 : Int) < (x0.length : Int))) || !(bif ((x0.length : Int) == (2 : Int)) then ((((List.getD x0 (Int.toNat (1 : Int)) 0).toNat : Nat) : Int) == (98 : Int)) else false)) n (bif (bif (bif ((x0.length : Int) == (2 : Int)) then ((((List.getD x0 (Int.toNat (1 : Int)) 0).toNat : Nat) : Int) == (98 : Int)) else false) then ((((List.getD x0 (Int.toNat (0 : Int)) 0).toNat : Nat) : Int) != (98 : Int)) else false) then (ck (cutOk x0 (0 : Int) (1 : Int)) n (bif ((cut x0 (0 : Int) (1 : Int)) == ([] : List UInt8)) then (bif ((cut x0 (0 : Int) (1 : Int)) == ([] : List UInt8)) then k ((0 : Int), true) else (bif ((cut x0 (0 : Int) (1 : Int)) == ([107] : List UInt8)) then k ((1 : Int), true) else (bif ((cut x0 (0 : Int) (1 : Int)) == ([109] : List UInt8)) then k ((2 : Int), true) else (bif ((cut x0 (0 : Int) (1 : Int)) == ([103] : List UInt8)) then k ((3 : Int), true) else k ((0 : Int), false))))) else (bif ((cut x0 (0 : Int) (1 : Int)) == ([98] : List UInt8)) then k ((0 : Int), true) else (bif ((cut x0 (0 : Int) (1 : Int)) == ([107] : List UInt8)) then k ((1 : Int), true) else (bif ((cut x0 (0 : Int) (1 : Int)) == ([109] : List UInt8)) then k ((2 : Int), true) else (bif ((cut x0 (0 : Int) (1 : Int)) == ([103] : List UInt8)) then k ((3 : Int), true) else k ((0 : Int), false))))))) else (bif (x0 == ([] : List UInt8)) then (bif (x0 == ([] : List UInt8)) then k ((0 : Int), true) else (bif (x0 == ([107] : List UInt8)) then k ((1 : Int), true) else (bif (x0 == ([109] : List UInt8)) then k ((2 : Int), true) else (bif (x0 == ([103] : List UInt8)) then k ((3 : Int), true) else k ((0 : Int), false))))) else (bif (x0 == ([98] : List UInt8)) then k ((0 : Int), true) else (bif (x0 == ([107] : List UInt8)) then k ((1 : Int), true) else (bif (x0 == ([109] : List UInt8)) then k ((2 : Int), true) else (bif (x0 == ([103] : List UInt8)) then k ((3 : Int), true) else k ((0 : Int), false))))))))
def size_unit_O : Oracle E := orac []
theorem size_unit_hO : OracleOk E size_unit_O := orac_ok .nil .nil .nil .nil
def size_unit_H : Hint E := {}
def size_unit_C : size_unit_S → Hd E
  | .e x0 => .e [⟨.str, x0⟩]
theorem size_unit_N : NatT size_unit_t := fun τ k g n s => by cases s <;> simp only [size_unit_t, eA]
theorem size_unit_R : Runs (E := E) .fn size_unit_O Tryz.f119 size_unit_H size_unit_C (encA (E := E) [.int, .bool]) size_unit_t := ⟨fun s G => by cases s <;> kernel_rfl, size_unit_N⟩
def size_unit_m (x0 : List UInt8) : Option (Int × Bool) := mu size_unit_t (.e x0)
def size_unit_W : FnW E := fnG (E := E) [.str] [.int, .bool] fun a => size_unit_m a
theorem size_unit_ok : FnOk E 119 size_unit_W := Runs.fn (E := E) (ps := [.str]) (rs := [.int, .bool]) size_unit_R size_unit_hO mix ⟨Tryz.func119, by kernel_rfl, by kernel_rfl⟩ (st := fun a => .e a) (fun _ => rfl) fun _ r h => ⟨r, h, rfl⟩
inductive size_Parse_S where
  | e (x0 : List UInt8)
  | h0 (v0 : List UInt8) (v1 : Int)
def size_Parse_t : Tree (Int × Int) size_Parse_S := fun _ k g n s => match s with
  | .e x0 => g (.h0 x0 (x0.length : Int))
  | .h0 v0 v1 => ck ((decide (0 ≤ (w64 (v1 - (1 : Int)))) && decide ((w64 (v1 - (1 : Int))) < (v0.length : Int))) || !(decide ((0 : Int) < v1))) n (ck ((decide (0 ≤ (w64 (v1 - (1 : Int)))) && decide ((w64 (v1 - (1 : Int))) < (v0.length : Int))) || !((decide ((0 : Int) < v1)) && (!(decide ((((List.getD v0 (Int.toNat (w64 (v1 - (1 : Int)))) 0).toNat : Nat) : Int) < (48 : Int)))))) n (bif (bif (decide ((0 : Int) < v1)) then (bif (decide ((((List.getD v0 (Int.toNat (w64 (v1 - (1 : Int)))) 0).toNat : Nat) : Int) < (48 : Int))) then true else (decide ((57 : Int) < (((List.getD v0 (Int.toNat (w64 (v1 - (1 : Int)))) 0).toNat : Nat) : Int)))) else false) then g (.h0 v0 (w64 (v1 - (1 : Int)))) else (ck (cutOk v0 v1 (v0.length : Int)) n (cl (size_unit_m (cut v0 v1 (v0.length : Int))) n fun y1 => bif (!y1.2) then k ((0 : Int), (3 : Int)) else (ck (cutOk v0 (0 : Int) v1) n (ck (decide (0 ≤ (w64 ((10 : Int) * y1.1))) && decide ((w64 ((10 : Int) * y1.1)) ≤ (64 : Int))) n (cl (digit_Count_m (cut v0 (0 : Int) v1) ((1125899906842624 : Int) / 2 ^ (Int.toNat (w64 ((10 : Int) * y1.1))))) n fun y2 => ck (decide (0 ≤ (w64 ((10 : Int) * y1.1))) && decide ((w64 ((10 : Int) * y1.1)) ≤ (64 : Int))) n (k ((w64 (y2.1 * 2 ^ (Int.toNat (w64 ((10 : Int) * y1.1))))), y2.2)))))))))
def size_Parse_O : Oracle E := orac [(91, digit_Count_W), (119, size_unit_W)]
theorem size_Parse_hO : OracleOk E size_Parse_O := orac_ok (.cons digit_Count_ok (.cons size_unit_ok .nil)) .nil .nil .nil
def size_Parse_H : Hint E := { live := [(0, [0, 4])] }
def size_Parse_C : size_Parse_S → Hd E
  | .e x0 => .e [⟨.str, x0⟩]
  | .h0 v0 v1 => .h 0 ⟨53, [(0, .d (.str v0)), (4, .d (.int .i64 v1))], [], 0⟩
theorem size_Parse_N : NatT size_Parse_t := fun τ k g n s => by cases s <;> simp only [size_Parse_t, eA]
theorem size_Parse_R : Runs (E := E) .fn size_Parse_O Tryz.f95 size_Parse_H size_Parse_C (encA (E := E) [.int, .api_Errno]) size_Parse_t := ⟨fun s G => by cases s <;> kernel_rfl, size_Parse_N⟩
def size_Parse_m (x0 : List UInt8) : Option (Int × Int) := mu size_Parse_t (.e x0)
def size_Parse_W : FnW E := fnG (E := E) [.str] [.int, .api_Errno] fun a => size_Parse_m a
theorem size_Parse_ok : FnOk E 95 size_Parse_W := Runs.fn (E := E) (ps := [.str]) (rs := [.int, .api_Errno]) size_Parse_R size_Parse_hO mix ⟨Tryz.func95, by kernel_rfl, by kernel_rfl⟩ (st := fun a => .e a) (fun _ => rfl) fun _ r h => ⟨r, h, rfl⟩
inductive size_level_S where
  | e (x0 : Int)
  | h0 (v0 : Int) (v1 : Int)
def size_level_t : Tree (Int) size_level_S := fun _ k g n s => match s with
  | .e x0 => g (.h0 x0 (0 : Int))
  | .h0 v0 v1 => bif (bif (bif (decide (v1 < (3 : Int))) then (v0 != (0 : Int)) else false) then ((bits .and .i64 v0 (1023 : Int)) == (0 : Int)) else false) then (ck (decide (0 ≤ (10 : Int)) && decide ((10 : Int) ≤ (64 : Int))) n (g (.h0 (v0 / 2 ^ (Int.toNat (10 : Int))) (w64 (v1 + (1 : Int)))))) else k v1
def size_level_O : Oracle E := orac []
theorem size_level_hO : OracleOk E size_level_O := orac_ok .nil .nil .nil .nil
def size_level_H : Hint E := { live := [(0, [0, 3])] }
def size_level_C : size_level_S → Hd E
  | .e x0 => .e [⟨.int, x0⟩]
  | .h0 v0 v1 => .h 0 ⟨20, [(0, .d (.int .i64 v0)), (3, .d (.int .i64 v1))], [], 0⟩
theorem size_level_N : NatT size_level_t := fun τ k g n s => by cases s <;> simp only [size_level_t, eA]
theorem size_level_R : Runs (E := E) .fn size_level_O Tryz.f120 size_level_H size_level_C (encA (E := E) [.int]) size_level_t := ⟨fun s G => by cases s <;> kernel_rfl, size_level_N⟩
def size_level_m (x0 : Int) : Option (Int) := mu size_level_t (.e x0)
def size_level_W : FnW E := fnG (E := E) [.int] [.int] fun a => size_level_m a
theorem size_level_ok : FnOk E 120 size_level_W := Runs.fn (E := E) (ps := [.int]) (rs := [.int]) size_level_R size_level_hO mix ⟨Tryz.func120, by kernel_rfl, by kernel_rfl⟩ (st := fun a => .e a) (fun _ => rfl) fun _ r h => ⟨r, h, rfl⟩
inductive size_Text_S where
  | e (x0 : Int)
def size_Text_t : Tree ((List UInt8)) size_Text_S := fun _ k _ n s => match s with
  | .e x0 => bif (bif (decide (x0 < (0 : Int))) then true else (decide ((1125899906842624 : Int) < x0))) then k ([] : List UInt8) else (cl (size_level_m x0) n fun y1 => ck (decide (0 ≤ (w64 ((10 : Int) * y1))) && decide ((w64 ((10 : Int) * y1)) ≤ (64 : Int))) n (cl (digit_Text_m (x0 / 2 ^ (Int.toNat (w64 ((10 : Int) * y1))))) n fun y2 => ck (decide (0 ≤ y1) && decide (y1 < (4 : Int))) n (ck (decide (y2.length + (List.getD ([([] : List UInt8), ([107] : List UInt8), ([109] : List UInt8), ([103] : List UInt8)] : List (List UInt8)) (Int.toNat y1) (dflt .str)).length ≤ maxStr)) n (k (y2 ++ (List.getD ([([] : List UInt8), ([107] : List UInt8), ([109] : List UInt8), ([103] : List UInt8)] : List (List UInt8)) (Int.toNat y1) (dflt .str)))))))
def size_Text_O : Oracle E := orac [(87, digit_Text_W), (120, size_level_W)]
theorem size_Text_hO : OracleOk E size_Text_O := orac_ok (.cons digit_Text_ok (.cons size_level_ok .nil)) .nil .nil .nil
def size_Text_H : Hint E := {}
def size_Text_C : size_Text_S → Hd E
  | .e x0 => .e [⟨.int, x0⟩]
theorem size_Text_N : NatT size_Text_t := fun τ k g n s => by cases s <;> simp only [size_Text_t, eA]
theorem size_Text_R : Runs (E := E) .fn size_Text_O Tryz.f96 size_Text_H size_Text_C (encA (E := E) [.str]) size_Text_t := ⟨fun s G => by cases s <;> kernel_rfl, size_Text_N⟩
def size_Text_m (x0 : Int) : Option ((List UInt8)) := mu size_Text_t (.e x0)
def size_Text_W : FnW E := fnG (E := E) [.int] [.str] fun a => size_Text_m a
theorem size_Text_ok : FnOk E 96 size_Text_W := Runs.fn (E := E) (ps := [.int]) (rs := [.str]) size_Text_R size_Text_hO mix ⟨Tryz.func96, by kernel_rfl, by kernel_rfl⟩ (st := fun a => .e a) (fun _ => rfl) fun _ r h => ⟨r, h, rfl⟩
inductive norm_Bytes_S where
  | e (x0 : Node)
def norm_Bytes_t : Tree (Node × Int) norm_Bytes_S := fun _ k _ n s => match s with
  | .e x0 => cl (size_Parse_m x0.text) n fun y1 => bif (bif (bif (x0.kind != (1 : Int)) then true else (y1.2 != (0 : Int))) then true else (y1.1 == (0 : Int))) then (cl norm_none_m n fun y2 => k ((etNode (y2.1)), y2.2)) else (cl (size_Text_m (y1.1)) n fun y3 => k ((etNode (txt1 y3)), (0 : Int)))
def norm_Bytes_O : Oracle E := orac [(70, ntext_W), (66, norm_none_W), (95, size_Parse_W), (96, size_Text_W)]
theorem norm_Bytes_hO : OracleOk E norm_Bytes_O := orac_ok (.cons ntext_ok (.cons norm_none_ok (.cons size_Parse_ok (.cons size_Text_ok .nil)))) .nil .nil .nil
def norm_Bytes_H : Hint E := {}
def norm_Bytes_C : norm_Bytes_S → Hd E
  | .e x0 => .e [⟨.api_Node, x0⟩]
theorem norm_Bytes_N : NatT norm_Bytes_t := fun τ k g n s => by cases s <;> simp only [norm_Bytes_t, eA]
theorem norm_Bytes_R : Runs (E := E) .fn norm_Bytes_O Tryz.f41 norm_Bytes_H norm_Bytes_C (encA (E := E) [.api_Node, .api_Errno]) norm_Bytes_t := ⟨fun s G => by cases s <;> kernel_rfl, norm_Bytes_N⟩
def norm_Bytes_m (x0 : Node) : Option (Node × Int) := mu norm_Bytes_t (.e x0)
def norm_Bytes_W : FnW E := fnG (E := E) [.api_Node] [.api_Node, .api_Errno] fun a => norm_Bytes_m a
theorem norm_Bytes_ok : FnOk E 41 norm_Bytes_W := Runs.fn (E := E) (ps := [.api_Node]) (rs := [.api_Node, .api_Errno]) norm_Bytes_R norm_Bytes_hO mix ⟨Tryz.func41, by kernel_rfl, by kernel_rfl⟩ (st := fun a => .e a) (fun _ => rfl) fun _ r h => ⟨r, h, rfl⟩
inductive name_Project_1_S where
  | e (x0 : Int)
def name_Project_1_t : Tree (Bool) name_Project_1_S := fun _ k _ n s => match s with
  | .e x0 => cl (name_small_m x0) n fun y1 => ck (((name_number_m x0).isSome) || !(!y1)) n (k (bif y1 then true else (gv (name_number_m x0))))
def name_Project_1_O : Oracle E := orac [(48, name_number_W), (47, name_small_W)]
theorem name_Project_1_hO : OracleOk E name_Project_1_O := orac_ok (.cons name_number_ok (.cons name_small_ok .nil)) .nil .nil .nil
def name_Project_1_H : Hint E := {}
def name_Project_1_C : name_Project_1_S → Hd E
  | .e x0 => .e [⟨.byte, x0⟩]
theorem name_Project_1_N : NatT name_Project_1_t := fun τ k g n s => by cases s <;> simp only [name_Project_1_t, eA]
theorem name_Project_1_R : Runs (E := E) .fn name_Project_1_O Tryz.f46 name_Project_1_H name_Project_1_C (encA (E := E) [.bool]) name_Project_1_t := ⟨fun s G => by cases s <;> kernel_rfl, name_Project_1_N⟩
def name_Project_1_m (x0 : Int) : Option (Bool) := mu name_Project_1_t (.e x0)
def name_Project_1_W : FnW E := fnG (E := E) [.byte] [.bool] fun a => name_Project_1_m a
theorem name_Project_1_ok : FnOk E 46 name_Project_1_W := Runs.fn (E := E) (ps := [.byte]) (rs := [.bool]) name_Project_1_R name_Project_1_hO mix ⟨Tryz.func46, by kernel_rfl, by kernel_rfl⟩ (st := fun a => .e a) (fun _ => rfl) fun _ r h => ⟨r, h, rfl⟩
inductive name_of__name_Project_1__name_Project_2_S where
  | e (x0 : List UInt8)
  | h0 (v0 : List UInt8) (v1 : Int)
def name_of__name_Project_1__name_Project_2_t : Tree (Bool) name_of__name_Project_1__name_Project_2_S := fun _ k g n s => match s with
  | .e x0 => ck ((decide (0 ≤ (0 : Int)) && decide ((0 : Int) < (x0.length : Int))) || !(!(bif (decide ((x0.length : Int) < (1 : Int))) then true else (decide ((24 : Int) < (x0.length : Int)))))) n (ck (((name_Project_1_m (((List.getD x0 (Int.toNat (0 : Int)) 0).toNat : Nat) : Int)).isSome) || !(!(bif (decide ((x0.length : Int) < (1 : Int))) then true else (decide ((24 : Int) < (x0.length : Int)))))) n (bif (bif (bif (decide ((x0.length : Int) < (1 : Int))) then true else (decide ((24 : Int) < (x0.length : Int)))) then true else (!(gv (name_Project_1_m (((List.getD x0 (Int.toNat (0 : Int)) 0).toNat : Nat) : Int))))) then k false else g (.h0 x0 (1 : Int))))
  | .h0 v0 v1 => bif (decide (v1 < (v0.length : Int))) then (ixb v0 v1 n fun y1 => cl (name_small_m y1) n fun y2 => ck (((name_number_m y1).isSome) || !(!y2)) n (bif (!(bif (bif (bif y2 then true else (gv (name_number_m y1))) then true else (y1 == (45 : Int))) then true else (y1 == (95 : Int)))) then k false else g (.h0 v0 (w64 (v1 + (1 : Int)))))) else k true
def name_of__name_Project_1__name_Project_2_O : Oracle E := withI (orac [(46, name_Project_1_W), (48, name_number_W), (47, name_small_W)]) [(49, Tryz.f49)]
theorem name_of__name_Project_1__name_Project_2_hO : OracleOk E name_of__name_Project_1__name_Project_2_O := withI_ok (orac_ok (.cons name_Project_1_ok (.cons name_number_ok (.cons name_small_ok .nil))) .nil .nil .nil) mix (.cons (f := 49) (fn := Tryz.f49) (by kernel_rfl) (by kernel_rfl) (by kernel_rfl) .nil)
def name_of__name_Project_1__name_Project_2_H : Hint E := { live := [(0, [0, 2, 7])] }
def name_of__name_Project_1__name_Project_2_C : name_of__name_Project_1__name_Project_2_S → Hd E
  | .e x0 => .c [.v ⟨.str, x0⟩, .c 46 [] [], .c 49 [] []]
  | .h0 v0 v1 => .h 0 ⟨35, [(0, .d (.str v0)), (2, .d (.raw (.func (.func 49) #[] #[]))), (7, .d (.int .i64 v1))], [], 0⟩
theorem name_of__name_Project_1__name_Project_2_N : NatT name_of__name_Project_1__name_Project_2_t := fun τ k g n s => by cases s <;> simp only [name_of__name_Project_1__name_Project_2_t, eA]
theorem name_of__name_Project_1__name_Project_2_R : Runs (E := E) .fn name_of__name_Project_1__name_Project_2_O Tryz.f45 name_of__name_Project_1__name_Project_2_H name_of__name_Project_1__name_Project_2_C (encA (E := E) [.bool]) name_of__name_Project_1__name_Project_2_t := ⟨fun s G => by cases s <;> kernel_rfl, name_of__name_Project_1__name_Project_2_N⟩
def name_of__name_Project_1__name_Project_2_m (x0 : List UInt8) : Option (Bool) := mu name_of__name_Project_1__name_Project_2_t (.e x0)
def name_of__name_Project_1__name_Project_2_A : FnP E := fnP (E := E) [.v .str, .c 46 [] [], .c 49 [] []] [.bool] fun a => name_of__name_Project_1__name_Project_2_m a
theorem name_of__name_Project_1__name_Project_2_aok : AOk E 45 name_of__name_Project_1__name_Project_2_A := Runs.cl (E := E) (sh := [.v .str, .c 46 [] [], .c 49 [] []]) (rs := [.bool]) name_of__name_Project_1__name_Project_2_R name_of__name_Project_1__name_Project_2_hO mix ⟨Tryz.func45, by kernel_rfl, by kernel_rfl⟩ (st := fun a => .e a) (fun _ => rfl) fun _ r h => ⟨r, h, rfl⟩
inductive name_Project_S where
  | e (x0 : List UInt8)
def name_Project_t : Tree (Bool) name_Project_S := fun _ k _ n s => match s with
  | .e x0 => cl (name_of__name_Project_1__name_Project_2_m x0) n fun y1 => k y1
def name_Project_O : Oracle E := withA (orac []) [(45, name_of__name_Project_1__name_Project_2_A)]
theorem name_Project_hO : OracleOk E name_Project_O := withA_ok (orac_ok .nil .nil .nil .nil) (.cons name_of__name_Project_1__name_Project_2_aok .nil)
def name_Project_H : Hint E := {}
def name_Project_C : name_Project_S → Hd E
  | .e x0 => .e [⟨.str, x0⟩]
theorem name_Project_N : NatT name_Project_t := fun τ k g n s => by cases s <;> simp only [name_Project_t, eA]
theorem name_Project_R : Runs (E := E) .fn name_Project_O Tryz.f20 name_Project_H name_Project_C (encA (E := E) [.bool]) name_Project_t := ⟨fun s G => by cases s <;> kernel_rfl, name_Project_N⟩
def name_Project_m (x0 : List UInt8) : Option (Bool) := mu name_Project_t (.e x0)
def name_Project_W : FnW E := fnG (E := E) [.str] [.bool] fun a => name_Project_m a
theorem name_Project_ok : FnOk E 20 name_Project_W := Runs.fn (E := E) (ps := [.str]) (rs := [.bool]) name_Project_R name_Project_hO mix ⟨Tryz.func20, by kernel_rfl, by kernel_rfl⟩ (st := fun a => .e a) (fun _ => rfl) fun _ r h => ⟨r, h, rfl⟩
end
end Go.Proofs.YtiahkjjfhnfdiaaGreatDoor.Rf
namespace Go.Proofs.YtiahkjjfhnfdiaaGreatDoor.Mir
open Go Go.RowKit
noncomputable section
section
variable {P : Program} {n : Nat} {r : Option Nat} {ops : Array Oper} {Q Q' : Exit → Act → World → Prop} {K K' : Act → World → Prop} {a : Act} {w : World}
abbrev Wd (r : Option Nat) : Fence := { Fence.wide with round := r }
theorem callsIn_wd {f : FuncId} {args : Array Value} {R : Ending → World → Prop} : CallsIn (Wd r) n P f args w R ↔ Calls P f args w R := callsIn_wide (n := n)
theorem oper_in {o : Oper} (ho : ∀ c, o.op ≠ .defer c) (h : o.wp P a w K Q) : o.wpIn (Wd r) n P a w K Q := by
  refine ⟨fun _ _ => trivial, ?_⟩
  rw [show o.semAt (Wd r).round a.eval = execOp a.eval o from Oper.semAt_eq r a.eval o ho]
  unfold Oper.wp at h
  generalize (execOp a.eval o).run P w = q at *
  cases q with
  | ok x w' =>
    cases x with
    | enter f args => exact ⟨fun h => (by cases h), callsIn_wd.2 h⟩
    | row row args => exact ⟨fun h => (by cases h), fun c cs _ => let ⟨v, w'', hr, hs⟩ := h c cs; ⟨v, w'', hr, stepsIn_wide.2 hs⟩⟩
    | round l f tmps assign body => exact h.elim
    | _ => exact h
  | halt x w' => cases x <;> exact h
theorem oper_monoQ {F : Fence} {o : Oper} (hK : ∀ a w, K a w → K' a w) (hp : ∀ c a w, Q (.panic c) a w → Q' (.panic c) a w) (hl : LetsOut Q → LetsOut Q') (hh : o.wpIn F n P a w K Q) : o.wpIn F n P a w K' Q' := by
  unfold Oper.wpIn at *
  refine ⟨hh.1, ?_⟩
  have hh := hh.2
  generalize (o.semAt F.round a.eval).run P w = q at *
  cases q with
  | ok x w' =>
    cases x <;> simp only [Oper.uponIn] at hh ⊢ <;>
      first
        | exact hK _ _ hh
        | exact ⟨hh.1, CallsIn.mono hh.2 (fun e w'' he => by cases e <;> first | exact hK _ _ he | exact hp _ _ _ he | exact hl he)⟩
        | exact ⟨hh.1, RowsIn.mono hh.2 (fun _ _ he => hK _ _ he)⟩
        | exact ⟨hh.1, RoundIn.mono hh.2 (fun e w'' he => by cases e <;> first | exact hK _ _ he | exact hp _ _ _ he | exact hl he)⟩
  | halt x w' => cases x <;> simp only [Oper.uponIn] at hh ⊢ <;> first | exact hp _ _ _ hh | exact hh
def noDefer : List Oper → Bool
  | [] => true
  | o :: r => (match o.op with | .defer _ => false | _ => true) && noDefer r
theorem list_in (hQ : ¬ LetsOut Q) : ∀ (l : List Oper) (a : Act) (w : World), noDefer l = true → wpList P ops Q l a w → wpListIn (Wd r) n P ops Q l a w
  | [], _, _, _, h => h
  | o :: rest, a, w, hd, h => by
    simp only [noDefer, Bool.and_eq_true] at hd
    unfold wpList at h
    unfold wpListIn
    split
    · rename_i hw
      rw [if_pos hw] at h
      rcases h with h | h
      · exact oper_monoQ (fun a w h => list_in hQ rest a w hd.2 h) (fun _ _ _ h => h) id (oper_in (fun c hc => by rw [hc] at hd; simp at hd) h)
      · exact absurd h.2 hQ
    · rename_i hw
      rw [if_neg hw] at h
      exact ⟨fun _ _ => trivial, list_in hQ rest _ w hd.2 h⟩
def Nm (K : Act → World → Prop) : Exit → Act → World → Prop
  | .normal, a, w => K a w
  | _, _, _ => False
theorem Nm.out : ¬ LetsOut (Nm K) := fun ⟨_, _, h⟩ => h
theorem list_app {F : Fence} {l2 : List Oper} : ∀ (l : List Oper) (a : Act) (w : World), wpListIn F n P ops (Nm (wpListIn F n P ops Q l2)) l a w → wpListIn F n P ops Q (l ++ l2) a w
  | [], _, _, h => h
  | o :: rest, a, w, h => by
    unfold wpListIn at h
    rw [List.cons_append]
    unfold wpListIn
    split
    · rename_i hw
      rw [if_pos hw] at h
      exact oper_monoQ (fun a w h => list_app rest a w h) (fun _ _ _ h => h.elim) (fun h => absurd h Nm.out) h
    · rename_i hw
      rw [if_neg hw] at h
      exact ⟨h.1, list_app rest _ w h.2⟩
end
section
variable {P : Program} {E : Env P} {O : Oracle E} {w0 : Start} {ro0 : Nat → Nat → Prop} {S : ASt E} {a : Act} {w w' : World} {ι ι' : Nat → Option Gh} {ro ro' : Nat → Nat → Prop} {n : Nat} {r : Option Nat} {Q : Exit → Act → World → Prop}
structure Kept (w : World) (ι : Nat → Option Gh) (ro : Nat → Nat → Prop) (w' : World) (ι' : Nat → Option Gh) (ro' : Nat → Nat → Prop) : Prop where
  cell : ∀ k o, ro k o → ro' k o ∧ w'.cell? ⟨k, o, none⟩ = w.cell? ⟨k, o, none⟩
  ext : ∀ id gh, ι id = some gh → ι' id = some gh
theorem Gam.rek (hg : Gam E w0 ro0 S a w ι ro) : Gam E { w0 with k := some ⟨w, ro, ι⟩ } ro0 S a w ι ro :=
  ⟨⟨hg.base.below, hg.base.rolt, hg.base.ronew, hg.base.ilt, hg.base.defers, (fun q hq => by cases hq; exact ⟨fun k o h => ⟨h, rfl⟩, fun _ _ h => h⟩), hg.base.held⟩, hg.size, hg.tmps, hg.objs, hg.inj, hg.fresh, hg.ids⟩
theorem Gam.unk (hk : w0.k = none) {S' : ASt E} {a' : Act} (hg : Gam E { w0 with k := some ⟨w, ro, ι⟩ } ro0 S' a' w' ι' ro') : Gam E w0 ro0 S' a' w' ι' ro' ∧ Kept w ι ro w' ι' ro' :=
  ⟨⟨⟨hg.base.below, hg.base.rolt, hg.base.ronew, hg.base.ilt, hg.base.defers, (fun q hq => by rw [hk] at hq; cases hq), hg.base.held⟩, hg.size, hg.tmps, hg.objs, hg.inj, hg.fresh, hg.ids⟩, ⟨fun k o h => ((hg.base.keep _ rfl).1 k o h), fun id gh h => (hg.base.keep _ rfl).2 id gh h⟩⟩
theorem Gam.frame (hg : Gam E w0 ro0 S a w ι ro) {a' : Act} {m nx : Nat} {tm : List (Nat × AV E)} (hd : a'.defers = w0.dl) (hs : a'.tmps.size = m) (ht : TmOk E w ro ι a' tm) (hx : S.next ≤ nx) : Gam E w0 ro0 ⟨m, tm, S.objs, nx⟩ a' w ι ro :=
  ⟨⟨hg.base.below, hg.base.rolt, hg.base.ronew, hg.base.ilt, hd, hg.base.keep, hg.base.held⟩, hs, ht, hg.objs, hg.inj, fun id h => hg.fresh id (Nat.le_trans hx h), fun id o h => Nat.lt_of_lt_of_le (hg.ids id o h) hx⟩
theorem Gam.turn (hg : Gam E w0 ro0 S a w ι ro) (hk : w0.k = none) {H : Nat → Option Obj} {dl : List Deferred} {a' : Act} (hd : a'.defers = dl) (ht : a'.tmps = a.tmps) (hos : w'.os = w.os) (htape : w'.tape = w.tape) (hout : w'.output = w.output) (hsize : w.heap.size ≤ w'.heap.size)
    (hframe : ∀ k, k < w.heap.size → w0.w.heap.size ≤ k ∧ (∀ id gh, ι id = some gh → gh.blk ≠ some k) ∨ w'.heap[k]? = w.heap[k]?) (hcell : ∀ k o, k < w.heap.size → w'.cell? ⟨k, o, none⟩ = w.cell? ⟨k, o, none⟩)
    (hH : ∀ k o, H k = some o → w'.heap[k]? = some o ∧ ∀ id gh, ι id = some gh → gh.blk ≠ some k) : Gam E { w0 with h := H, dl := dl } ro0 S a' w' ι ro := by
  have hfr : ∀ id gh g, ι id = some gh → gh.blk = some g → w'.heap[g]? = w.heap[g]? := fun id gh g h1 h2 => by
    rcases hframe g (hg.base.ilt id gh g h1 h2).2 with h | h
    · exact absurd h2 (h.2 id gh h1)
    · exact h
  have hc : ∀ k o, ro k o → w'.cell? ⟨k, o, none⟩ = w.cell? ⟨k, o, none⟩ := fun k o h => hcell k o (hg.base.rolt k o h)
  refine ⟨⟨⟨hos.trans hg.base.below.os, htape.trans hg.base.below.tape, hout.trans hg.base.below.output, Nat.le_trans hg.base.below.size hsize, fun k hk hne => ?_⟩, fun k o h => Nat.lt_of_lt_of_le (hg.base.rolt k o h) hsize, hg.base.ronew, fun id gh k h1 h2 => ⟨(hg.base.ilt id gh k h1 h2).1, Nat.lt_of_lt_of_le (hg.base.ilt id gh k h1 h2).2 hsize⟩, hd, (fun q hq => by
      have : w0.k = some q := hq
      rw [hk] at this; cases this), hH⟩, by rw [ht]; exact hg.size, fun t x hl => ?_, fun id o hl => ?_, hg.inj, hg.fresh, hg.ids⟩
  · refine Eq.trans ?_ (hg.base.below.block k hk hne)
    rcases hframe k (Nat.lt_of_lt_of_le hk hg.base.below.size) with h | h
    · exact absurd (show k < w0.w.heap.size from hk) (Nat.not_lt.2 h.1)
    · exact h
  · obtain ⟨v, h1, h2⟩ := hg.tmps t x hl
    rw [← ht] at h1 h2
    exact ⟨v, h1, h2.mono (fun _ _ h => h) hc (fun _ _ h => h)⟩
  · have h := hg.objs id o hl
    cases o with
    | dead => trivial
    | tail l =>
      intro hl
      obtain ⟨gh, xs, h1, h2, h3⟩ := h hl
      exact ⟨gh, xs, h1, h2.frame (fun g hb => hfr id gh g h1 hb), h3⟩
    | dfr =>
      obtain ⟨gh, g, h1, h2, h3⟩ := h
      exact ⟨gh, g, h1, h2, (hfr id gh g h1 h2).trans h3⟩
    | arr t l fz =>
      obtain ⟨h0, gh, g, vs, e, h1, h2, h3, h4, h5, h6, h7⟩ := h
      exact ⟨h0, gh, g, vs, e, h1, h2, h3, (hfr id gh g h1 h3).trans h4, h5, fun j v c hv hj => ⟨(h6 j v c hv hj).1, (h6 j v c hv hj).2.mono (fun _ _ h => h) hc (fun _ _ h => h)⟩, h7⟩
    | lp st pend n tm ps assign body =>
      obtain ⟨gh, g, rec, h1, h2, h3, h4, h5⟩ := h
      exact ⟨gh, g, rec, h1, h2, (hfr id gh g h1 h2).trans h3, h4, fun t x hl => by
        obtain ⟨v, q1, q2⟩ := h5 t x hl
        exact ⟨v, q1, q2.mono (fun _ _ h => h) hc (fun _ _ h => h)⟩⟩
    | mp K V l =>
      obtain ⟨gh, g, es, h1, h2, h3, h4, h5, h6⟩ := h
      exact ⟨gh, g, es, h1, h2, h3, (hfr id gh g h1 h3).trans h4, h5, fun j e x he hx => by
        obtain ⟨k1, k2, k3, k4⟩ := h6 j e x he hx
        exact ⟨k1, k2, k3, fun i v c hv hc' => ⟨(k4 i v c hv hc').1, (k4 i v c hv hc').2.mono (fun _ _ h => h) hc (fun _ _ h => h)⟩⟩⟩
    | row t l =>
      obtain ⟨gh, xs, h1, h2, h3, h4, h5, h6, h7⟩ := h
      exact ⟨gh, xs, h1, h2, h3, h4, h5.frame (fun g hb => hfr id gh g h1 hb), fun i x j c hx hj => by
        obtain ⟨u, hu, hr⟩ := h6 i x j c hx hj
        exact ⟨u, hu, hr.mono (fun _ _ h => h) hc⟩, h7⟩
    | box cs =>
      obtain ⟨gh, g, vs, e, h1, h2, h3, h4, h5, h6, h7⟩ := h
      exact ⟨gh, g, vs, e, h1, h2, h3, (hfr id gh g h1 h3).trans h4, h5, fun j v c hv hj => ⟨(h6 j v c hv hj).1, (h6 j v c hv hj).2.mono (fun _ _ h => h) hc (fun _ _ h => h)⟩, h7⟩
def pickL {α : Type} (l : List (Nat × α)) : List Nat → List (Nat × α)
  | [] => []
  | i :: r => match look l i with
    | some x => (i, x) :: pickL l r
    | none => pickL l r
theorem look_pickL {α : Type} {l : List (Nat × α)} : ∀ {ids : List Nat} {t : Nat} {x : α}, look (pickL l ids) t = some x → look l t = some x
  | [], _, _, h => by cases h
  | i :: r, t, x, h => by
    unfold pickL at h
    split at h
    · rename_i y hy
      simp only [look_nil, look_cons] at h
      split at h
      · rename_i hb
        have := Nat.eq_of_beq_eq_true hb
        subst this
        cases h
        exact hy
      · exact look_pickL h
    · exact look_pickL h
theorem mem_pickL {α : Type} {l : List (Nat × α)} : ∀ {ids : List Nat} {p : Nat × α}, p ∈ pickL l ids → p ∈ l
  | [], _, h => by cases h
  | i :: r, p, h => by
    unfold pickL at h
    split at h
    · rename_i y hy
      cases h with
      | head => exact look_mem _ _ _ hy
      | tail _ h => exact mem_pickL h
    · exact mem_pickL h
def pk (ts ids : List Nat) (nx : Nat) (S : ASt E) : Option (ASt E) := match Nat.ble S.next nx with
  | true => some ⟨S.n, pickL S.tmps ts, pickL S.objs ids, nx⟩
  | false => none
theorem Gam.pick (hnc : NoCond S.tmps) (hg : Gam E w0 ro0 S a w ι ro) {ts ids : List Nat} {nx : Nat} {X : ASt E} (h : pk ts ids nx S = some X) : NoCond X.tmps ∧ Gam E w0 ro0 X a w ι ro ∧ X.n = S.n := by
  unfold pk at h
  split at h
  · rename_i hb
    cases h
    have hx := Nat.le_of_ble_eq_true hb
    exact ⟨fun p hp => hnc p (mem_pickL hp), ⟨hg.base, hg.size, fun t x hl => hg.tmps t x (look_pickL hl), fun id o hl => hg.objs id o (look_pickL hl),
      fun id id' o o' gh gh' k h1 h2 => hg.inj id id' o o' gh gh' k (look_pickL h1) (look_pickL h2), fun id h => hg.fresh id (Nat.le_trans hx h), fun id o h => Nat.lt_of_lt_of_le (hg.ids id o (look_pickL h)) hx⟩, rfl⟩
  · cases h
theorem step_pk (hO : OracleOk E O) (hk : w0.k = none) (hnc : NoCond S.tmps) (hg : Gam E w0 ro0 S a w ι ro) {ops : Array Oper} {L l l2 : List Oper} (hL : L = l ++ l2) (hd : noDefer l = true) {ts ids : List Nat} {nx : Nat} {X : ASt E} (h : evSeq O ops S.n S.tmps l [] S.objs S.next (pk ts ids nx) = some X)
    (hq : ∀ a' w' ι' ro', NoCond X.tmps → Gam E w0 ro0 X a' w' ι' ro' → Kept w ι ro w' ι' ro' → wpListIn (Wd r) n P ops Q l2 a' w') : wpListIn (Wd r) n P ops Q L a w := by
  subst hL
  refine list_app l a w (list_in Nm.out l a w hd (evSeq_sound (n := S.n) (glob := S.tmps) hO hnc (fun S1 a' w' ι' ro' h1 h2 h3 h4 => ?_) l [] S.objs S.next a w ι ro hg.rek h))
  obtain ⟨g1, g2⟩ := h2.unk hk
  obtain ⟨p1, p2, _⟩ := g1.pick h1 h4
  exact hq a' w' ι' ro' p1 p2 g2
theorem reg_pk (hO : OracleOk E O) (hk : w0.k = none) (hnc : NoCond S.tmps) (hg : Gam E w0 ro0 S a w ι ro) {ops : Array Oper} {id : Nat} (hd : noDefer ops.toList = true) (ts ids : List Nat) (nx : Nat) (X : ASt E) (h : evSeq O ops S.n S.tmps ops.toList [] S.objs S.next (pk ts ids nx) = some X)
    (hq : ∀ a' w' ι' ro', NoCond X.tmps → Gam E w0 ro0 X a' w' ι' ro' → Kept w ι ro w' ι' ro' → Q .normal a' w') : (Code.region id ops false).wpIn (Wd r) n P Q a w :=
  wpIn_region_list (step_pk (l2 := []) hO hk hnc hg (List.append_nil _).symm hd h hq)
theorem Kept.refl : Kept w ι ro w ι ro := ⟨fun _ _ h => ⟨h, rfl⟩, fun _ _ h => h⟩
theorem Kept.trans {w2 : World} {ι2 : Nat → Option Gh} {ro2 : Nat → Nat → Prop} (h : Kept w ι ro w' ι' ro') (h' : Kept w' ι' ro' w2 ι2 ro2) : Kept w ι ro w2 ι2 ro2 :=
  ⟨fun k o q => ⟨(h'.cell k o (h.cell k o q).1).1, (h'.cell k o (h.cell k o q).1).2.trans (h.cell k o q).2⟩, fun id gh q => h'.ext id gh (h.ext id gh q)⟩
theorem TmOk.kept {tm : List (Nat × AV E)} (h : TmOk E w ro ι a tm) (hk : Kept w ι ro w' ι' ro') : TmOk E w' ro' ι' a tm := fun t x hl => by
  obtain ⟨v, h1, h2⟩ := h t x hl
  exact ⟨v, h1, h2.mono (fun k o q => (hk.cell k o q).1) (fun k o q => (hk.cell k o q).2) hk.ext⟩
theorem cell_putObj (w : World) {l : Nat} {o o' : Obj} (hl : w.heap[l]? = some o) (h1 : o.isCells = false) (h2 : o'.isCells = false) (k q : Nat) : (w.putObj l o').cell? ⟨k, q, none⟩ = w.cell? ⟨k, q, none⟩ := by
  have hlt := (Array.getElem?_eq_some_iff.1 hl).1
  by_cases e : k = l
  · subst e
    unfold World.cell?
    rw [World.putObj_heap_same hlt, hl]
    cases o <;> cases o' <;> first | rfl | (cases h2; done) | (cases h1; done)
  · unfold World.cell?
    rw [World.putObj_heap_other e]
theorem Gam.putHeld (hg : Gam E w0 ro0 S a w ι ro) (hk : w0.k = none) {l : Nat} {o o' : Obj} (hl : w0.h l = some o) (hb : w0.w.heap.size ≤ l) (h1 : o.isCells = false) (h2 : o'.isCells = false) :
    Gam E { w0 with h := fun k => if k = l then some o' else w0.h k } ro0 S a (w.putObj l o') ι ro ∧ Kept w ι ro (w.putObj l o') ι ro := by
  obtain ⟨q1, q2⟩ := hg.base.held l o hl
  have hlt := (Array.getElem?_eq_some_iff.1 q1).1
  refine ⟨hg.turn hk (dl := w0.dl) hg.base.defers rfl rfl rfl rfl (by rw [World.putObj_size]; exact Nat.le_refl _) (fun k hk' => ?_) (fun k q _ => cell_putObj w q1 h1 h2 k q) (fun k p hp => ?_), ⟨fun k q h => ⟨h, cell_putObj w q1 h1 h2 k q⟩, fun _ _ h => h⟩⟩
  · by_cases e : k = l
    · subst e; exact .inl ⟨hb, q2⟩
    · exact .inr (World.putObj_heap_other e)
  · by_cases e : k = l
    · subst e
      simp only [if_true] at hp
      cases hp
      exact ⟨World.putObj_heap_same hlt, q2⟩
    · simp only [if_neg e] at hp
      obtain ⟨p1, p2⟩ := hg.base.held k p hp
      exact ⟨(World.putObj_heap_other e).trans p1, p2⟩
theorem Gam.put {m nx : Nat} {tm : List (Nat × AV E)} {objs : List (Nat × AObj E)} (hg : Gam E w0 ro0 ⟨m, tm, objs, nx⟩ a w ι ro) (hnc : NoCond tm) {d : Nat} {val : Value} {x : AV E} (hd : d < m) (hv : Rep E w ro ι val x) (hx : isCond x = false) :
    Gam E w0 ro0 ⟨m, (d, x) :: tm, objs, nx⟩ (a.put (some d) val) w ι ro ∧ NoCond ((d, x) :: tm) := by
  refine ⟨⟨⟨hg.base.below, hg.base.rolt, hg.base.ronew, hg.base.ilt, hg.base.defers, hg.base.keep, hg.base.held⟩, put_size.trans hg.size, fun t y hl => ?_, hg.objs, hg.inj, hg.fresh, hg.ids⟩, fun p hp => ?_⟩
  · simp only [look_nil, look_cons] at hl
    split at hl
    · rename_i hb
      have := Nat.eq_of_beq_eq_true hb
      subst this
      cases hl
      refine ⟨val, ?_, by cases x <;> first | exact hv | cases hx⟩
      have hs : a.tmps.size = m := hg.size
      simp [Act.put, hs, hd]
    · rename_i hb
      obtain ⟨v, h1, h2⟩ := hg.tmps t y hl
      have hne : d ≠ t := fun e => hb (by subst e; exact Nat.beq_refl d)
      refine ⟨v, (put_get (fun e => hne (by injection e))).trans h1, ?_⟩
      have hc := hnc _ (look_mem _ _ _ hl)
      cases y <;> first | exact h2 | cases hc
  · cases hp with
    | head => exact hx
    | tail _ hp => exact hnc p hp
theorem yield_op {l : Nat} {o : Oper} {cal : Operand} {xs : Array Operand} {ts : Array TypeId} (ho : o.op = .call { callee := .value cal, args := xs, argTypes := ts }) {fn : FuncId} {tmps : Array Value} {assign body : Code} {K : Act → World → Prop} (hc : a.eval cal = .func (.yield l) #[] #[])
    (hy : (Instr.yield l (xs.map a.eval)).run P w = .ok (.round l fn tmps assign body) w) (hr : RoundIn (Wd none) (n - 1) P l fn tmps assign body w fun e w' => ∃ v, e = .returned v ∧ K (a.put o.dst v) w') : o.wpIn (Wd none) n P a w K Q := by
  refine ⟨fun _ _ => trivial, ?_⟩
  have e : (o.semAt (Wd none).round a.eval).run P w = .ok (.round l fn tmps assign body) w := by
    rw [show o.semAt (Wd none).round a.eval = execOp a.eval o from Oper.semAt_none a.eval o]
    simp only [execOp, ho, resolve, hc, Deferred.ofValue, Sem.run_bind, Sem.run_pure, Result.andThen_ok, invoke]
    simpa using hy
  rw [e]
  exact ⟨fun h => (by cases h), hr.mono fun e w' he => by obtain ⟨v, rfl, hk⟩ := he; exact hk⟩
end
end
end Go.Proofs.YtiahkjjfhnfdiaaGreatDoor.Mir
namespace Go.Proofs.YtiahkjjfhnfdiaaGreatDoor.Rf
open Go Go.RowKit Go.Sort Go.Proofs.YtiahkjjfhnfdiaaGreatDoor.Mir
noncomputable def gindex_W : FnW E := fn2 (E := E) .str .str .int okIx ixV
def gindex_id : FuncId := 161
noncomputable def gindex_O : Oracle E := orac [(137, sindex_W)] [] [] []
noncomputable def gindex_H : Hint E := {}
noncomputable def gindex_t (_G : Nat → ASt E → Option (List (TV E))) (x0 x1 : List UInt8) : Option (List (TV E)) :=
  bif (okIx x0 x1) then some [⟨.int, (ixV x0 x1)⟩] else none
theorem gindex_e (G : Nat → ASt E → Option (List (TV E))) (x0 : List UInt8) (x1 : List UInt8) : runE gindex_O gindex_H G Tryz.f161 [⟨.str, x0⟩, ⟨.str, x1⟩] = gindex_t G x0 x1 := by kernel_rfl
theorem gindex_f : Tryz.prog.funcs[161]? = some Tryz.f161 := by kernel_rfl
theorem gindex_n : (Tryz.f161.name == "runtime.NumGoroutine") = false := by kernel_rfl
theorem gindex_b : Tryz.f161.body.isNone = false := by kernel_rfl
theorem gindex_hO : OracleOk E gindex_O := orac_ok (.cons sindex_ok .nil) .nil .nil .nil
theorem gindex_ok_of (h : ∀ (x0 : List UInt8) (x1 : List UInt8), okIx x0 x1 = true → gindex_t (Gr E Tryz.f161 [⟨.int, ixV x0 x1⟩]) x0 x1 = some [⟨.int, ixV x0 x1⟩]) : FnOk E gindex_id gindex_W := fn2_ok gindex_hO mix gindex_f gindex_n gindex_b (fun x0 x1 hk => (gindex_e _ x0 x1).trans (h x0 x1 hk))
theorem gindex_ok : FnOk E gindex_id gindex_W := gindex_ok_of fun s p hk => by simp only [gindex_t, hk, cond_true]
section
def regOf (i : Nat) : Code → Option (Array Oper)
  | .region id ops _ => bif Nat.beq id i then some ops else none
  | .seq x y => match regOf i x with | some r => some r | none => regOf i y
  | .cond _ x y => match regOf i x with | some r => some r | none => regOf i y
  | .block _ c => regOf i c
  | .loop c => regOf i c
  | .scope c => regOf i c
  | .rangeFunc _ _ x y => match regOf i x with | some r => some r | none => regOf i y
  | _ => none
def opsOf (f : Func) (i : Nat) : Array Oper := match f.body with
  | some c => (match regOf i c with | some r => r | none => #[])
  | none => #[]
noncomputable abbrev i7 (i : Nat) : Array Oper := opsOf Tryz.f140 i
noncomputable def A3 : Code := .region 6 (i7 6) false
noncomputable def B4 : Code := .block 1 (.seq (.region 7 (i7 7) false) (.cond (.tmp 27) (.seq (.region 8 (i7 8) false) .ret) .skip))
def mob (rest : List UInt8) : List (Nat × AObj E) :=
  [(0, .box [.d (.bool false)]), (1, .box [.d (.str rest)]), (2, .box [.d (.str [47])]), (3, .box [.d (.int .i64 0)])]
noncomputable def rc (fn : FuncId) (tms : Array Value) (D : Nat) (st : LoopState) (pe : Option Code) : Loop := { state := st, pending := pe, fn := fn, tmps := tms, params := #[17], assign := A3, body := B4, defers := D }
def hd (l D : Nat) (o : Obj) : Nat → Option Obj := fun k => if k = l then some o else if k = D then some (.deferred (some [])) else none
def wSt (W : World) (l D : Nat) (o : Obj) : Mir.Start := ⟨W, none, none, [], hd l D o⟩
theorem hd_hd (l D : Nat) (o o' : Obj) : (fun k => if k = l then some o' else hd l D o k) = hd l D o' := by
  funext k
  unfold hd
  by_cases e : k = l
  · rw [if_pos e, if_pos e]
  · rw [if_neg e, if_neg e, if_neg e]
theorem wS_put {W : World} {ro0 : Nat → Nat → Prop} {l D : Nat} {o o' : Obj} {S : ASt E} {a : Act} {w : World} {ι : Nat → Option Gh} {ro : Nat → Nat → Prop} (hg : Gam E (wSt W l D o) ro0 S a w ι ro) (hb : W.heap.size ≤ l) (h1 : o.isCells = false) (h2 : o'.isCells = false) :
    Gam E (wSt W l D o') ro0 S a (w.putObj l o') ι ro ∧ Kept w ι ro (w.putObj l o') ι ro := by
  obtain ⟨g1, g2⟩ := hg.putHeld rfl (l := l) (o := o) (o' := o') (if_pos rfl) hb h1 h2
  refine ⟨?_, g2⟩
  have e : ({ wSt W l D o with h := fun k => if k = l then some o' else (wSt W l D o).h k } : Mir.Start) = wSt W l D o' := by
    show (⟨W, none, none, [], fun k => if k = l then some o' else hd l D o k⟩ : Mir.Start) = _
    rw [hd_hd]; rfl
  rwa [e] at g1
theorem wS_at {W : World} {ro0 : Nat → Nat → Prop} {l D : Nat} {o : Obj} {S : ASt E} {a : Act} {w : World} {ι : Nat → Option Gh} {ro : Nat → Nat → Prop} (hg : Gam E (wSt W l D o) ro0 S a w ι ro) : w.heap[l]? = some o := (hg.base.held l o (if_pos rfl)).1
noncomputable def itO : Oracle E := orac [(gindex_id, gindex_W)] [] [] []
theorem itO_ok : OracleOk E itO := orac_ok (.cons gindex_ok .nil) .nil .nil .nil
def badP (x : List UInt8) : Bool := bif (bif x == [] then true else x == [46]) then true else x == [46, 46]
theorem q6_e (x : List UInt8) (rest : List UInt8) : evSeq itO (i7 6) 28 [(17, .d (.str x)), (2, .ptr 0 0)] (i7 6).toList [] (mob rest) 100 (pk [3, 2] [0, 1, 2, 3] 110) = some ⟨28, [(3, .d (.str x)), (2, .ptr 0 0)], mob rest, 110⟩ := by kernel_rfl
theorem q7_e (x : List UInt8) (rest : List UInt8) : evSeq itO (i7 7) 28 [(3, .d (.str x)), (2, .ptr 0 0)] (i7 7).toList [] (mob rest) 110 (pk [27, 2] [0, 1, 2, 3] 120) = some ⟨28, [(27, .d (.bool (badP x))), (2, .ptr 0 0)], mob rest, 120⟩ := by kernel_rfl
theorem q8_e (b : Bool) (rest : List UInt8) : evSeq itO (i7 8) 28 [(27, .d (.bool b)), (2, .ptr 0 0)] (i7 8).toList [] (mob rest) 120 (pk [] [0, 1, 2, 3] 200) = some ⟨28, [], mob rest, 200⟩ := by kernel_rfl
theorem bool_at {w0 : Mir.Start} {ro0 : Nat → Nat → Prop} {S : ASt E} {a : Act} {w : World} {ι : Nat → Option Gh} {ro : Nat → Nat → Prop} (hg : Gam E w0 ro0 S a w ι ro) {t : Nat} {b : Bool} (h : getA S.tmps [] (.tmp t) = .d (.bool b)) : a.eval (.tmp t) = .bool b := by
  have hc := getA_rep (E := E) (asm := []) hg.tmps (fun j b hb => by simp [hasAsm] at hb) (.tmp t)
  rw [h] at hc
  exact hc.bool_inv
theorem round_ok {W : World} {ro0 : Nat → Nat → Prop} {l D fn n : Nat} {tms : Array Value} {g6 nx : Nat} {gh0 : Gh} {tm : List (Nat × AV E)} {rest x : List UInt8} {a : Act} {w : World} {ι : Nat → Option Gh} {ro : Nat → Nat → Prop}
    (hW : W.heap.size ≤ l) (hts : tms.size = 28) (h6 : tms[2]? = some (.pointer (some ⟨g6, 0, none⟩))) (hv0 : gh0.v = .pointer (some ⟨g6, 0, none⟩)) (hi0 : ι 0 = some gh0) (hnx : nx ≤ 100)
    (hg : Gam E (wSt W l D (.loop (rc fn tms D .ready none))) ro0 ⟨52, tm, mob rest, nx⟩ a w ι ro) :
    (Instr.yield l #[.string ⟨x.toArray⟩]).run Tryz.prog w = .ok (.round l fn (tms.setIfInBounds 17 (.string ⟨x.toArray⟩)) A3 B4) w ∧
    RoundIn (Wd none) n Tryz.prog l fn (tms.setIfInBounds 17 (.string ⟨x.toArray⟩)) A3 B4 w fun e w' => ∃ v, e = .returned v ∧ v = .bool (!badP x) ∧ ∃ ι' ro', Gam E (wSt W l D (.loop (rc fn tms D (bif badP x then .done else .ready) (bif badP x then some .ret else none)))) ro0 ⟨52, tm, mob rest, 200⟩ a w' ι' ro' ∧ Kept w ι ro w' ι' ro' := by
  have hl := wS_at hg
  refine ⟨by rw [run_yield hl rfl]; first | (simp [rc]; done) | kernel_rfl, ?_⟩
  refine roundIn_of_wpIn (F := Wd none) trivial ?_
  show A3.wpIn (Wd (some l)) n Tryz.prog _ _ w
  let a1 : Act := { tmps := tms.setIfInBounds 17 (.string ⟨x.toArray⟩), defers := [] }
  have hg1 : Gam E (wSt W l D (.loop (rc fn tms D .ready none))) ro0 ⟨28, [(17, .d (.str x)), (2, .ptr 0 0)], mob rest, 100⟩ a1 w ι ro := by
    refine hg.frame rfl (by simp [a1, hts]) (fun t y hl => ?_) hnx
    simp only [Mir.look] at hl
    cases hb : Nat.beq 17 t with
    | true =>
      rw [hb] at hl
      have := Nat.eq_of_beq_eq_true hb
      subst this
      cases hl
      exact ⟨.string ⟨x.toArray⟩, by simp [a1, hts], Rep.d _ _ (.str x)⟩
    | false =>
      rw [hb] at hl
      cases hb2 : Nat.beq 2 t with
      | true =>
        rw [hb2] at hl
        have := Nat.eq_of_beq_eq_true hb2
        subst this
        cases hl
        exact ⟨.pointer (some ⟨g6, 0, none⟩), by simp [a1, h6], Rep.ptr gh0 g6 0 0 hi0 hv0⟩
      | false => rw [hb2] at hl; cases hl
  refine reg_pk itO_ok rfl (fun p hp => by simp at hp; rcases hp with rfl | rfl <;> rfl) hg1 (by kernel_rfl) [3, 2] [0, 1, 2, 3] 110 _ (q6_e x rest) fun a2 w2 ι2 ro2 hnc2 hg2 hk2 => ?_
  refine ⟨_, run_beginRound (wS_at hg2) rfl, ?_⟩
  obtain ⟨hg3, hk3⟩ := wS_put (o' := .loop (rc fn tms D .busy none)) hg2 hW rfl rfl
  show B4.wpIn (Wd (some l)) n Tryz.prog _ a2 _
  refine wpIn_block (wpIn_seq ?_)
  refine reg_pk itO_ok rfl hnc2 hg3 (by kernel_rfl) [27, 2] [0, 1, 2, 3] 120 _ (q7_e x rest) fun a4 w4 ι4 ro4 hnc4 hg4 hk4 => ?_
  have hb := bool_at hg4 (t := 27) (b := badP x) rfl
  cases hbad : badP x with
  | false =>
    rw [hbad] at hb
    refine wpIn_cond_false hb (wpIn_skip ?_)
    refine ⟨_, _, run_endRound none (wS_at hg4), _, rfl, rfl, ?_⟩
    obtain ⟨hg5, hk5⟩ := wS_put (o' := .loop (rc fn tms D .ready none)) hg4 hW rfl rfl
    have hk := ((hk2.trans hk3).trans hk4).trans hk5
    exact ⟨ι4, ro4, hg5.frame hg.base.defers hg.size (hg.tmps.kept hk) (by show 120 ≤ 200; omega), hk⟩
  | true =>
    rw [hbad] at hb
    refine wpIn_cond_true hb (wpIn_seq ?_)
    refine reg_pk itO_ok rfl hnc4 hg4 (by kernel_rfl) [] [0, 1, 2, 3] 200 _ (q8_e (badP x) rest) fun a5 w5 ι5 ro5 hnc5 hg5 hk5 => ?_
    refine wpIn_ret ?_
    refine ⟨_, _, run_endRound (some .ret) (wS_at hg5), _, rfl, rfl, ?_⟩
    obtain ⟨hg6, hk6⟩ := wS_put (o' := .loop (rc fn tms D .done (some .ret))) hg5 hW rfl rfl
    have hk := (((hk2.trans hk3).trans hk4).trans hk5).trans hk6
    exact ⟨ι5, ro5, hg6.frame hg.base.defers hg.size (hg.tmps.kept hk) (Nat.le_refl _), hk⟩
end
end Go.Proofs.YtiahkjjfhnfdiaaGreatDoor.Rf
namespace Go.Proofs.YtiahkjjfhnfdiaaGreatDoor.Rf
open Go Go.RowKit Go.Sort Go.Proofs.YtiahkjjfhnfdiaaGreatDoor.Mir
def splP : List UInt8 → List (List UInt8)
  | [] => [[]]
  | c :: r => bif c == 47 then [] :: splP r else match splP r with
    | h :: t => (c :: h) :: t
    | [] => [[c]]
theorem splP_cons (c : UInt8) (r : List UInt8) : splP (c :: r) = bif c == 47 then [] :: splP r else match splP r with | h :: t => (c :: h) :: t | [] => [[c]] := rfl
theorem splP_none : ∀ (s : List UInt8), Lib.indexByte s 47 < 0 → splP s = [s]
  | [], _ => rfl
  | c :: r, h => by
    unfold Lib.indexByte at h
    split at h
    · exact absurd h (by decide)
    · rename_i hc
      have hr : Lib.indexByte r 47 < 0 := by
        rcases ix_ge r 47 with h' | ⟨i, h', _⟩
        · exact h'
        · rw [h'] at h
          split at h
          · rename_i he; have : (i : Int) = -1 := beq_iff_eq.1 he
            omega
          · omega
      unfold splP
      rw [splP_none r hr, show (c == 47) = false by simpa using hc]
      rfl
theorem splP_some : ∀ (s : List UInt8) (i : Nat), Lib.indexByte s 47 = (i : Int) → splP s = s.take i :: splP (s.drop (i + 1))
  | [], i, h => by exact absurd h (by show ¬ ((-1 : Int) = (i : Int)); omega)
  | c :: r, i, h => by
    unfold Lib.indexByte at h
    split at h
    · rename_i hc
      have hi : i = 0 := by omega
      subst hi
      have hc : (c == 47) = true := by simpa using hc
      rw [splP_cons, hc]; rfl
    · rename_i hc
      rcases ix_ge r 47 with h' | ⟨j, h', _⟩
      · split at h
        · omega
        · have := Lib.indexByte_ge r 47
          rename_i he
          have he : ¬ Lib.indexByte r 47 = -1 := by simpa using he
          omega
      · rw [h'] at h
        split at h
        · rename_i he; have : (j : Int) = -1 := beq_iff_eq.1 he
          omega
        · have hj : i = j + 1 := by omega
          subst hj
          rw [splP_cons, splP_some r j h', show (c == 47) = false by simpa using hc]
          rfl
section
noncomputable abbrev i35 (i : Nat) : Array Oper := opsOf Tryz.f174 i
noncomputable def itL : Code := .block 3 (.seq (.region 5 (i35 5) false) (.seq (.seq (.region 6 (i35 6) false) (.cond (.tmp 33) (.exit 2) .skip)) (.seq (.region 7 (i35 7) false) (.seq (.seq (.region 8 (i35 8) false) (.cond (.tmp 42) .ret .skip)) (.region 9 (i35 9) false)))))
def YL (l : Nat) : AV E := .d (.raw (.func (.yield l) #[] #[]))
def tm0 (l : Nat) : List (Nat × AV E) := [(0, YL l), (1, .ptr 2 0), (2, .ptr 1 0), (3, .ptr 3 0)]
theorem r5_e (l : Nat) (rest : List UInt8) : evSeq itO (i35 5) 52 (tm0 l) (i35 5).toList [] (mob rest) 5 (pk [7, 0, 1, 2, 3] [0, 1, 2, 3] 20) = bif okIx rest [47] then some ⟨52, (7, .d (.int .i64 (ixV rest [47]))) :: tm0 l, mob rest, 20⟩ else none := by kernel_rfl
theorem r6_e (l : Nat) (i : Int) (rest : List UInt8) : evSeq itO (i35 6) 52 ((7, .d (.int .i64 i)) :: tm0 l) (i35 6).toList [] (mob rest) 20 (pk [33, 7, 0, 1, 2, 3] [0, 1, 2, 3] 30) = some ⟨52, (33, .d (.bool (decide (i < 0)))) :: (7, .d (.int .i64 i)) :: tm0 l, mob rest, 30⟩ := by kernel_rfl
theorem r7_e (l : Nat) (i : Int) (b : Bool) (rest : List UInt8) : evSeq itO (i35 7) 52 ((33, .d (.bool b)) :: (7, .d (.int .i64 i)) :: tm0 l) (i35 7).toList [] (mob rest) 30 (pk [8, 7, 0, 1, 2, 3] [0, 1, 2, 3] 40) =
    bif decide ((0 : Int) ≤ 0) && decide ((0 : Int) ≤ w64 (i + 0)) && decide (w64 (i + 0) ≤ (rest.length : Int)) then some ⟨52, (8, .d (.str (List.take (Int.toNat (w64 (i + 0)) - Int.toNat 0) (List.drop (Int.toNat 0) rest)))) :: (7, .d (.int .i64 i)) :: tm0 l, mob rest, 40⟩ else none := by kernel_rfl
theorem r8_e (l : Nat) (i : Int) (x : List UInt8) (rest : List UInt8) : evSeq itO (i35 8) 52 ((8, .d (.str x)) :: (7, .d (.int .i64 i)) :: tm0 l) ((i35 8).toList.take 2) [] (mob rest) 40 (pk [39, 40, 7, 0, 1, 2, 3] [0, 1, 2, 3] 50) = some ⟨52, (39, YL l) :: (40, .d (.str x)) :: (7, .d (.int .i64 i)) :: tm0 l, mob rest, 50⟩ := by kernel_rfl
theorem r8_f (l : Nat) (i : Int) (x : List UInt8) (b : Bool) (rest : List UInt8) : evSeq itO (i35 8) 52 ((41, .d (.bool b)) :: (39, YL l) :: (40, .d (.str x)) :: (7, .d (.int .i64 i)) :: tm0 l) ((i35 8).toList.drop 3) [] (mob rest) 200 (pk [42, 7, 0, 1, 2, 3] [0, 1, 2, 3] 210) = some ⟨52, (42, .d (.bool (!b))) :: (7, .d (.int .i64 i)) :: tm0 l, mob rest, 210⟩ := by kernel_rfl
theorem r9_e (l : Nat) (i : Int) (rest : List UInt8) : evSeq itO (i35 9) 52 ((42, .d (.bool false)) :: (7, .d (.int .i64 i)) :: tm0 l) (i35 9).toList [] (mob rest) 210 (pk [0, 1, 2, 3] [0, 1, 2, 3] 230) =
    bif decide ((0 : Int) ≤ w64 (i + 1)) && decide (w64 (i + 1) ≤ (rest.length : Int)) && decide ((rest.length : Int) ≤ (rest.length : Int)) then some ⟨52, tm0 l, mob (List.take (Int.toNat (rest.length : Int) - Int.toNat (w64 (i + 1))) (List.drop (Int.toNat (w64 (i + 1))) rest)), 230⟩ else none := by kernel_rfl
theorem d_at {w0 : Mir.Start} {ro0 : Nat → Nat → Prop} {S : ASt E} {a : Act} {w : World} {ι : Nat → Option Gh} {ro : Nat → Nat → Prop} (hg : Gam E w0 ro0 S a w ι ro) {t : Nat} {c : DVal E.Den} (h : getA S.tmps [] (.tmp t) = .d c) : DRep E w ro (a.eval (.tmp t)) c := by
  have hc := getA_rep (E := E) (asm := []) hg.tmps (fun j b hb => by simp [hasAsm] at hb) (.tmp t)
  rw [h] at hc
  generalize a.eval (.tmp t) = v at hc
  cases hc with
  | d _ _ h => exact h
noncomputable def rcB (fn : FuncId) (tms : Array Value) (D : Nat) (b : Bool) : Obj := .loop (rc fn tms D (bif b then .done else .ready) (bif b then some .ret else none))
theorem it_round {W : World} {ro0 : Nat → Nat → Prop} {l D fn n : Nat} {tms : Array Value} {g6 : Nat} {gh0 : Gh} {rest x : List UInt8} {a : Act} {w : World} {ι : Nat → Option Gh} {ro : Nat → Nat → Prop} {i : Int} {Q : Exit → Act → World → Prop}
    (hW : W.heap.size ≤ l) (hts : tms.size = 28) (h6 : tms[2]? = some (.pointer (some ⟨g6, 0, none⟩))) (hv0 : gh0.v = .pointer (some ⟨g6, 0, none⟩)) (hi0 : ι 0 = some gh0)
    (hg : Gam E (wSt W l D (rcB fn tms D false)) ro0 ⟨52, (8, .d (.str x)) :: (7, .d (.int .i64 i)) :: tm0 l, mob rest, 40⟩ a w ι ro)
    (hK : ∀ a' w' ι' ro', Gam E (wSt W l D (rcB fn tms D (badP x))) ro0 ⟨52, (42, .d (.bool (!(!badP x)))) :: (7, .d (.int .i64 i)) :: tm0 l, mob rest, 210⟩ a' w' ι' ro' → ι' 0 = some gh0 → Q .normal a' w') : (Code.region 8 (i35 8) false).wpIn (Wd none) n Tryz.prog Q a w := by
  refine wpIn_region_list ?_
  refine step_pk (l := (i35 8).toList.take 2) (l2 := (i35 8).toList.drop 2) itO_ok rfl (fun p hp => by simp [tm0, YL] at hp; rcases hp with rfl | rfl | rfl | rfl | rfl | rfl <;> rfl) hg (List.take_append_drop _ _).symm (by kernel_rfl) (r8_e l i x rest) fun a1 w1 ι1 ro1 hnc1 hg1 hk1 => ?_
  have hx : a1.eval (.tmp 40) = .string ⟨x.toArray⟩ := by
    have := d_at (c := .str x) hg1 (t := 40) rfl
    generalize a1.eval (.tmp 40) = v at this
    cases this; rfl
  have hy : a1.eval (.tmp 39) = .func (.yield l) #[] #[] := by
    have := d_at (c := .raw (.func (.yield l) #[] #[])) hg1 (t := 39) rfl
    generalize a1.eval (.tmp 39) = v at this
    cases this; rfl
  obtain ⟨q1, q2⟩ := round_ok (n := n - 1) (x := x) hW hts h6 hv0 (hk1.ext _ _ hi0) (by show 50 ≤ 100; omega) hg1
  have e2 : (i35 8).toList.drop 2 = (i35 8)[2]! :: (i35 8).toList.drop 3 := by kernel_rfl
  rw [e2]
  refine wpListIn_plain (by kernel_rfl) fun K hK' => ?_
  refine yield_op (show ((i35 8)[2]!).op = .call { callee := .value (.tmp 39), args := #[.tmp 40], argTypes := #[9] } by kernel_rfl) hy (by rw [show (#[Operand.tmp 40].map a1.eval) = #[a1.eval (.tmp 40)] by simp, hx]; exact q1) (q2.mono fun e w2 he => ?_)
  obtain ⟨v, rfl, rfl, ι2, ro2, hg2, hk2⟩ := he
  refine ⟨_, rfl, hK' _ _ ?_⟩
  have ed : ((i35 8)[2]!).dst = some 41 := by kernel_rfl
  rw [ed]
  obtain ⟨hg3, hnc3⟩ := hg2.put hnc1 (d := 41) (val := .bool (!badP x)) (x := .d (.bool (!badP x))) (by decide) (.d _ _ (.bool (!badP x))) rfl
  exact step_pk (l2 := []) itO_ok rfl hnc3 hg3 (List.append_nil _).symm (by kernel_rfl) (r8_f l i x (!badP x) rest) fun a4 w4 ι4 ro4 hnc4 hg4 hk4 => hK a4 w4 ι4 ro4 hg4 (hk4.ext _ _ (hk2.ext _ _ (hk1.ext _ _ hi0)))
theorem tm0_nc (l : Nat) : NoCond (tm0 (l : Nat)) := fun p hp => by simp [tm0, YL] at hp; rcases hp with rfl | rfl | rfl | rfl <;> rfl
theorem nc_cons {tm : List (Nat × AV E)} {t : Nat} {c : DVal E.Den} (h : NoCond tm) : NoCond ((t, .d c) :: tm) := fun p hp => by
  cases hp with
  | head => rfl
  | tail _ hp => exact h p hp
theorem tm0_plain (l : Nat) (objs : List (Nat × AObj E)) (t : Nat) (y : AV E) (h : Mir.look (tm0 l) t = some y) : plainV objs y = y := by
  have := look_mem _ _ _ h
  simp [tm0, YL] at this
  rcases this with ⟨_, rfl⟩ | ⟨_, rfl⟩ | ⟨_, rfl⟩ | ⟨_, rfl⟩ <;> rfl
theorem it_loop {W : World} {ro0 : Nat → Nat → Prop} {l D fn : Nat} {tms : Array Value} {g6 : Nat} {gh0 : Gh} {Q : Exit → Act → World → Prop} (hW : W.heap.size ≤ l) (hts : tms.size = 28) (h6 : tms[2]? = some (.pointer (some ⟨g6, 0, none⟩))) (hv0 : gh0.v = .pointer (some ⟨g6, 0, none⟩)) (any : Bool)
    (hQ : ∀ a w ι ro rest, ι 0 = some gh0 → badP rest = any → Gam E (wSt W l D (rcB fn tms D false)) ro0 ⟨52, tm0 l, mob rest, 40⟩ a w ι ro → Q (.exit 2) a w)
    (hR : ∀ a w ι ro rest, ι 0 = some gh0 → any = true → Gam E (wSt W l D (rcB fn tms D true)) ro0 ⟨52, [], mob rest, 210⟩ a w ι ro → Q .ret a w)
    (rest : List UInt8) (a : Act) (w : World) (ι : Nat → Option Gh) (ro : Nat → Nat → Prop) (hlen : rest.length ≤ 1000000) (hall : (splP rest).any badP = any) (hi0 : ι 0 = some gh0)
    (hg : Gam E (wSt W l D (rcB fn tms D false)) ro0 ⟨52, tm0 l, mob rest, 5⟩ a w ι ro) : LoopWp Tryz.prog itL Q a w := by
  induction hm : rest.length using Nat.strongRecOn generalizing rest a w ι ro with
  | _ m ih =>
  refine LoopWp.round (wp_block ((wpIn_wide (n := 0)).1 ?_))
  show Code.wpIn (Wd none) 0 Tryz.prog _ _ a w
  refine wpIn_seq ?_
  have h5 := r5_e l rest
  rw [show okIx rest [47] = true by simp [okIx]; omega, cond_true] at h5
  refine reg_pk itO_ok rfl (tm0_nc l) hg (by kernel_rfl) _ _ _ _ h5 fun a1 w1 ι1 ro1 nc1 g1 k1 => ?_
  refine wpIn_seq (wpIn_seq ?_)
  refine reg_pk itO_ok rfl nc1 g1 (by kernel_rfl) _ _ _ _ (r6_e l (ixV rest [47]) rest) fun a2 w2 ι2 ro2 nc2 g2 k2 => ?_
  have hi2 := k2.ext _ _ (k1.ext _ _ hi0)
  have hb := bool_at g2 (t := 33) (b := decide (ixV rest [47] < 0)) rfl
  rcases ix_ge rest 47 with h | ⟨i, h1, h2⟩
  · have h : ixV rest [47] < 0 := h
    rw [dT h] at hb
    refine wpIn_cond_true hb (wpIn_exit ?_)
    obtain ⟨_, g3, _⟩ := g2.pick nc2 (ts := [0, 1, 2, 3]) (ids := [0, 1, 2, 3]) (nx := 40) (X := ⟨52, tm0 l, mob rest, 40⟩) (by kernel_rfl)
    have := hQ a2 w2 ι2 ro2 rest hi2 (by rw [← hall, splP_none rest h]; simp) g3
    simpa [Exit.then, Exit.inBlock] using this
  · have hi : ixV rest [47] = (i : Int) := h1
    rw [hi, dF (show ¬ (i : Int) < 0 by omega)] at hb
    refine wpIn_cond_false hb (wpIn_skip ?_)
    rw [hi] at g2 nc2
    have ei : w64 ((i : Int) + 0) = (i : Int) := by rw [w64_id (by omega) (by omega)]; omega
    have ei1 : w64 ((i : Int) + 1) = ((i + 1 : Nat) : Int) := by rw [w64_id (by omega) (by omega)]; omega
    have h7 := r7_e l (i : Int) (decide ((i : Int) < 0)) rest
    rw [ei, dT (show (0 : Int) ≤ 0 by omega), dT (show (0 : Int) ≤ (i : Int) by omega), dT (show (i : Int) ≤ (rest.length : Int) by omega)] at h7
    simp only [Bool.and_self, cond_true, Int.toNat_zero, Nat.sub_zero, List.drop_zero, Int.toNat_natCast] at h7
    refine wpIn_seq ?_
    refine reg_pk itO_ok rfl nc2 g2 (by kernel_rfl) _ _ _ _ h7 fun a3 w3 ι3 ro3 nc3 g3 k3 => ?_
    refine wpIn_seq (wpIn_seq ?_)
    refine it_round hW hts h6 hv0 (k3.ext _ _ hi2) g3 fun a4 w4 ι4 ro4 g4 hi4 => ?_
    have hb4 := bool_at g4 (t := 42) (b := !(!badP (rest.take i))) rfl
    rw [splP_some rest i h1] at hall
    cases hbad : badP (rest.take i) with
    | true =>
      rw [hbad] at hb4 g4
      refine wpIn_cond_true hb4 (wpIn_ret ?_)
      have := hR a4 w4 ι4 ro4 rest hi4 (by rw [← hall]; simp [hbad]) (g4.frame g4.base.defers g4.size (fun t y h => by cases h) (Nat.le_refl _))
      simpa [Exit.then, Exit.inBlock] using this
    | false =>
    rw [hbad] at hb4 g4
    refine wpIn_cond_false hb4 (wpIn_skip ?_)
    have h9 := r9_e l (i : Int) rest
    rw [ei1, dT (show (0 : Int) ≤ ((i + 1 : Nat) : Int) by omega), dT (show ((i + 1 : Nat) : Int) ≤ (rest.length : Int) by omega), dT (show (rest.length : Int) ≤ (rest.length : Int) by omega)] at h9
    simp only [Bool.and_self, cond_true, Int.toNat_natCast] at h9
    rw [show List.take (rest.length - (i + 1)) (List.drop (i + 1) rest) = List.drop (i + 1) rest from List.take_of_length_le (by rw [List.length_drop]; omega)] at h9
    refine reg_pk itO_ok rfl (nc_cons (nc_cons (tm0_nc l))) g4 (by kernel_rfl) _ _ _ _ h9 fun a5 w5 ι5 ro5 nc5 g5 k5 => ?_
    obtain ⟨nc6, g6'⟩ := ren_sound (w0 := wSt W l D (rcB fn tms D false)) (S := ⟨52, tm0 l, mob (rest.drop (i + 1)), 230⟩) [0, 1, 2, 3] (by decide) (tm0 l) (fun t y h => ⟨y, h, (tm0_plain l _ t y h).symm⟩) (fun q h => by cases h) nc5 g5
    have g7 : Gam E (wSt W l D (rcB fn tms D false)) ro0 ⟨52, tm0 l, mob (rest.drop (i + 1)), 5⟩ a5 w5 (fun j => (([0, 1, 2, 3] : List Nat)[j]?).bind ι5) ro5 := g6'.frame g6'.base.defers g6'.size g6'.tmps (by show 4 ≤ 5; omega)
    refine ih _ ?_ (rest.drop (i + 1)) a5 w5 _ ro5 ?_ ?_ ?_ g7 rfl
    · rw [← hm, List.length_drop]; omega
    · rw [List.length_drop]; omega
    · rw [← hall, List.any_cons, hbad, Bool.false_or]
    · exact k5.ext _ _ hi4
end
end Go.Proofs.YtiahkjjfhnfdiaaGreatDoor.Rf
