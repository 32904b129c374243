/- The law of overlaid nodes: what each function of the program and of the reference computes, by the Mirror. -/
import Derived.Test.YtnbohemhgbkdlaaMirR
import Derived.Test.YtnbohemhgbkdlaaMirU
import Derived.Test.YtnbohemhgbkdlaaRows
import Derived.Test.YtnbohemhgbkdlaaShelf
import Derived.Test.YtnbohemhgbkdlaaPlain
import Derived.Sort.OwnSorted
import Derived.Lib.AppendZeros
namespace Go.Proofs.Ytnbohemhgbkdlaa.Bl
open Go Go.RowKit Go.Sort Go.Proofs.Ytnbohemhgbkdlaa.Mir
structure Node where
  kind : Int
  text : List UInt8
  keys : List (List UInt8)
  kids : List Node
inductive Ty where
  | int | str | l_str | l_api_Node | api_Node | bool | l_l_str | u64 | fn28
  deriving DecidableEq
abbrev Den : Ty → Type
  | .int => Int
  | .str => List UInt8
  | .l_str => List (List UInt8)
  | .l_api_Node => List Node
  | .api_Node => Node
  | .bool => Bool
  | .l_l_str => List (List (List UInt8))
  | .u64 => Int
  | .fn28 => Nat
def tid : Ty → TypeId
  | .int => 3
  | .str => 9
  | .l_str => 22
  | .l_api_Node => 23
  | .api_Node => 25
  | .bool => 4
  | .l_l_str => 45
  | .u64 => 51
  | .fn28 => 28
def code : TypeId → Option Ty
  | 3 => some .int
  | 9 => some .str
  | 22 => some .l_str
  | 23 => some .l_api_Node
  | 25 => some .api_Node
  | 4 => some .bool
  | 45 => some .l_l_str
  | 51 => some .u64
  | 28 => some .fn28
  | _ => none
def agg : Ty → Bool
  | .int => false
  | .str => false
  | .l_str => false
  | .l_api_Node => false
  | .api_Node => true
  | .bool => false
  | .l_l_str => false
  | .u64 => false
  | .fn28 => false
def size : Ty → Nat
  | .int => 1
  | .str => 1
  | .l_str => 1
  | .l_api_Node => 1
  | .api_Node => 4
  | .bool => 1
  | .l_l_str => 1
  | .u64 => 1
  | .fn28 => 1
def bytes : Ty → Nat
  | .int => 8
  | .str => 16
  | .l_str => 24
  | .l_api_Node => 24
  | .api_Node => 72
  | .bool => 1
  | .l_l_str => 24
  | .u64 => 8
  | .fn28 => 8
def cells : (t : Ty) → Den t → List (DVal Den)
  | .int, x => [.int .i64 x]
  | .str, x => [.str x]
  | .l_str, x => [.slice .str x]
  | .l_api_Node, x => [.slice .api_Node x]
  | .api_Node, x => [.int .i64 x.kind, .str x.text, .slice .str x.keys, .slice .api_Node x.kids]
  | .bool, x => [.bool x]
  | .l_l_str, x => [.slice .l_str x]
  | .u64, x => [.int .u64 x]
  | .fn28, x => [.raw (.func (.func x) #[] #[])]
def dec : DecidableEq Ty := inferInstance
def fold : (t : Ty) → List (DVal Den) → Option (Den t)
  | .int, [c] => dInt .i64 c
  | .str, [c] => dStr c
  | .l_str, [c] => dSl dec .str c
  | .l_api_Node, [c] => dSl dec .api_Node c
  | .api_Node, [c0, c1, c2, c3] => match dInt .i64 c0, dStr c1, dSl dec .str c2, dSl dec .api_Node c3 with | some y0, some y1, some y2, some y3 => some (⟨y0, y1, y2, y3⟩ : Node) | _, _, _, _ => none
  | .bool, [c] => dBl c
  | .l_l_str, [c] => dSl dec .l_str c
  | .u64, [c] => dInt .u64 c
  | .fn28, [c] => dFn c
  | _, _ => none
def dflt : (t : Ty) → Den t
  | .int => (0 : Int)
  | .str => []
  | .l_str => []
  | .l_api_Node => []
  | .api_Node => ⟨(0 : Int), [], [], []⟩
  | .bool => false
  | .l_l_str => []
  | .u64 => (0 : Int)
  | .fn28 => (0 : Nat)
theorem fold_ok : ∀ t cs x, fold t cs = some x → CsLe cs (cells t x) := by
  intro t cs x h
  cases t
  case int => match cs, h with | [c], h => exact ⟨dInt_le h, trivial⟩
  case str => match cs, h with | [c], h => exact ⟨dStr_le h, trivial⟩
  case l_str => match cs, h with | [c], h => exact ⟨dSl_le h, trivial⟩
  case l_api_Node => match cs, h with | [c], h => exact ⟨dSl_le h, trivial⟩
  case api_Node =>
    match cs, h with
    | [c0, c1, c2, c3], h =>
      simp only [fold] at h
      split at h
      · rename_i h0 h1 h2 h3; cases h; exact ⟨dInt_le h0, dStr_le h1, dSl_le h2, dSl_le h3, trivial⟩
      · cases h
  case bool => match cs, h with | [c], h => exact ⟨dBl_le h, trivial⟩
  case l_l_str => match cs, h with | [c], h => exact ⟨dSl_le h, trivial⟩
  case u64 => match cs, h with | [c], h => exact ⟨dInt_le h, trivial⟩
  case fn28 => match cs, h with | [c], h => exact ⟨dFn_le h, trivial⟩
theorem code_ok : ∀ i t, code i = some t → i = tid t := by
  intro i t h
  unfold code at h
  split at h <;> first | (cases h; rfl) | cases h
theorem info_ok : ∀ t, ∃ i z, Try.prog.info? (tid t) = some i ∧ i.size = size t ∧ i.bytes = bytes t ∧ i.zero = some z ∧ z.cells.size = size t := by
  intro t
  refine info_of ?_ rfl
  cases t <;> kernel_rfl
theorem agg_ok : ∀ t, isAggT Try.prog (tid t) = agg t := by intro t; cases t <;> kernel_rfl
theorem und_ok : ∀ t, (Try.prog.underlying (tid t)).isSome = true := by intro t; cases t <;> kernel_rfl
abbrev E : Env Try.prog where
  Ty := Ty
  dec := dec
  Den := Den
  tid := tid
  code := code
  agg := agg
  size := size
  bytes := bytes
  cells := cells
  fold := fold
  code_ok := code_ok
  info_ok := info_ok
  agg_ok := agg_ok
  und_ok := und_ok
  size_pos := by intro t; cases t <;> decide
  bytes_pos := by intro t; cases t <;> decide
  one := by intro t h; cases t <;> first | rfl | cases h
  cells_len := by intro t x; cases t <;> rfl
  dflt := dflt
  fold_ok := fold_ok
theorem mix : Try.prog.follows .mixedOrders = true := by kernel_rfl
def w64 (n : Int) : Int := IntKind.wrap .i64 n
/-! ### Small facts -/
theorem w64_id {n : Int} (h : -9223372036854775808 ≤ n) (h' : n ≤ 9223372036854775807) : w64 n = n := by
  unfold w64
  rw [IntKind.wrap_i64]
  omega
theorem gd {α : Type} (l : List α) (d : α) (i : Nat) (h : i < l.length) : List.getD l (Int.toNat (i : Int)) d = l[i] := by
  rw [Int.toNat_natCast, List.getD, List.getElem?_eq_getElem h]; rfl
theorem d0 (i : Nat) : decide ((0 : Int) ≤ (i : Int)) = true := by simp
theorem dlt {i n : Nat} (h : i < n) : decide ((i : Int) < (n : Int)) = true := by simp only [decide_eq_true_eq]; omega
theorem dge {i n : Nat} (h : n ≤ i) : decide ((i : Int) < (n : Int)) = false := by simp only [decide_eq_false_iff_not]; omega
theorem dT {p : Prop} [Decidable p] (h : p) : decide p = true := decide_eq_true h
theorem dF {p : Prop} [Decidable p] (h : ¬ p) : decide p = false := decide_eq_false h
theorem neT {a b : Int} (h : a ≠ b) : (a != b) = true := by simpa using h
theorem neF {a b : Int} (h : a = b) : (a != b) = false := by simp [h]
theorem eqT {a b : Int} (h : a = b) : (a == b) = true := by simp [h]
theorem eqF {a b : Int} (h : a ≠ b) : (a == b) = false := by simpa using h
theorem mb : maxBytes = 140737488355328 := rfl
def okSort (l : List (List UInt8)) : Bool := decide (l.length ≤ 1000000)
/-! ### The sort and the compaction of texts -/
theorem enc_str {w : World} {ro : Nat → Nat → Prop} {u : Value} {x : List UInt8} (h : DRep E w ro u (.str x)) : u = encStr x := by cases h; rfl
theorem row_strs {w : World} {ro : Nat → Nat → Prop} {xs : List Value} {l : List (List UInt8)} (hl : xs.length = l.length) (h : RowD E w ro .str xs l) : xs = l.map encStr := by
  apply List.ext_getElem?
  intro i
  by_cases hi : i < l.length
  · obtain ⟨u, hu, hd⟩ := h i l[i] 0 (.str l[i]) (List.getElem?_eq_getElem hi) rfl
    have hu : xs[i * 1 + 0]? = some u := hu
    rw [Nat.mul_one, Nat.add_zero] at hu
    rw [hu, enc_str hd]
    simp [hi]
  · rw [List.getElem?_eq_none (by omega), List.getElem?_eq_none (by simp; omega)]
theorem strs_row {w : World} {ro : Nat → Nat → Prop} (l : List (List UInt8)) : RowD E w ro .str (l.map encStr) l := by
  intro i x j c hx hc
  have hc : ([.str x] : List (DVal E.Den))[j]? = some c := hc
  cases j with
  | zero =>
    simp at hc
    subst hc
    refine ⟨encStr x, ?_, .str x⟩
    show (l.map encStr)[i * 1 + 0]? = some (encStr x)
    rw [Nat.mul_one, Nat.add_zero, List.getElem?_map, show l[i]? = some x from hx]
    rfl
  | succ j => simp at hc
noncomputable def sort_M : FnM E := mut0 (E := E) .str false okSort Pl.msort
def sort_mid : FuncId := 27
theorem sort_mex : ∃ fn, Try.prog.funcs[sort_mid]? = some fn ∧ (fn.name == "runtime.NumGoroutine") = false ∧ fn.body.isNone = false := ⟨Try.f27, by kernel_rfl, by kernel_rfl, by kernel_rfl⟩
noncomputable def compact_M : FnM E := mut0 (E := E) .str true okSort Lib.compact
def compact_mid : FuncId := 28
theorem compact_mex : ∃ fn, Try.prog.funcs[compact_mid]? = some fn ∧ (fn.name == "runtime.NumGoroutine") = false ∧ fn.body.isNone = false := ⟨Try.f28, by kernel_rfl, by kernel_rfl, by kernel_rfl⟩
theorem msort_nil : Pl.msort [] = [] := by simp [Pl.msort]
theorem sort_mok : MutOk E sort_mid sort_M := by
  refine ⟨sort_mex, fun t l rest back l' h => ?_⟩
  obtain ⟨l, e1, hr, hb, hok, e2⟩ := mut0_inv h
  cases e1
  cases e2
  subst hr; subst hb
  have hok : okSort l = true := hok
  simp only [okSort, decide_eq_true_eq] at hok
  intro w ro gh xs vals hn hge hgs hown hrow hnro hargs hrolt
  match vals, hargs with
  | [], _ =>
  have hlen : (Pl.msort l).length = l.length := Pl.msort_len l
  rcases hown with ⟨hown, hblk⟩ | ⟨h0, hxs, hblk, ad, hv⟩
  · have hx1 : xs.length = l.length := by rw [hown.1, hgs, hn]; show l.length * 1 = _; omega
    have hxs := row_strs hx1 hrow
    rcases hown.2 with ⟨hnil, hn0⟩ | ⟨g, cap, cur, hgv, hbase, hb, h1, h2, h3, h4⟩
    · have hl0 : l = [] := List.eq_nil_of_length_eq_zero (by omega)
      subst hl0
      rw [hnil, msort_nil]
      refine (Try.slices_Sort_string_none none 0 w).mono fun e w' he => ?_
      obtain ⟨rfl, rfl⟩ := he
      refine ⟨_, gh, [], rfl, ⟨rfl, rfl, rfl, Nat.le_refl _, fun _ _ _ => rfl⟩, hn, hge, hgs, .inl ⟨?_, hblk⟩, strs_row [], fun g hg => .inl hg, (fun h => by cases h), fun _ => rfl⟩
      rw [hnil, hn0]
      exact World.ownsRow_nil _ 0 _ _
    · rw [hgv, hn]
      rw [hge] at hb
      have hsz : gh.sz = 1 := hgs
      rw [hsz, Nat.mul_one] at h3
      rw [hsz, Nat.mul_one, hn, hxs] at h4
      refine (Try.slices_Sort_string g 0 cap l w (holds_of_block hb h4) (Array.getElem?_eq_some_iff.1 hb).1 (by omega)).mono fun e w' he => ?_
      obtain ⟨rfl, n, os, rfl⟩ := he
      have hg2 : gh.blk = some g := by rw [hblk, hgv]; rfl
      refine ⟨_, gh, (Pl.msort l).map encStr, rfl, by rw [hg2]; exact grownBy_sorted _, by rw [hlen]; exact hn, hge, hgs, .inl ⟨?_, hblk⟩, strs_row _, fun g hg => .inl hg, (fun h => by cases h), fun _ => rfl⟩
      rw [hgv, hn, hge, hsz]
      exact ownsRow_sorted (ts := Pl.msort l) hlen (Nat.zero_le _) hb (by omega) h2 (by rw [h3, Nat.mul_one])
  · have hl0 : l = [] := List.eq_nil_of_length_eq_zero (by omega)
    subst hl0
    rw [hv, msort_nil]
    refine (Try.slices_Sort_string_none ad 0 w).mono fun e w' he => ?_
    obtain ⟨rfl, rfl⟩ := he
    exact ⟨_, gh, [], rfl, ⟨rfl, rfl, rfl, Nat.le_refl _, fun _ _ _ => rfl⟩, hn, hge, hgs, .inr ⟨h0, rfl, hblk, ad, hv⟩, strs_row [], fun g hg => .inl hg, (fun h => by cases h), fun _ => rfl⟩
theorem ownsRow_prefix {w : World} {base g cap n m : Nat} {e : TypeId} {xs : List Value} (h : w.ownsRow base e 1 (.slice (some ⟨g, 0, none⟩) n cap) n xs) (hm : m ≤ n) : w.ownsRow base e 1 (.slice (some ⟨g, 0, none⟩) m cap) m (xs.take m) := by
  obtain ⟨h1, h2⟩ := h
  refine ⟨by rw [List.length_take]; omega, .inr ?_⟩
  rcases h2 with ⟨h2, _⟩ | ⟨g', cap', cur, h2, h3, h4, h5, h6, h7, h8⟩
  · cases h2
  · cases h2
    exact ⟨g, cap, cur, rfl, h3, h4, by omega, h6, h7, by rw [← h8, List.take_take, Nat.mul_one, Nat.mul_one, Nat.min_eq_left hm]⟩
theorem compact_mok : MutOk E compact_mid compact_M := by
  refine ⟨compact_mex, fun t l rest back l' h => ?_⟩
  obtain ⟨l, e1, hr, hb, hok, e2⟩ := mut0_inv h
  cases e1
  cases e2
  subst hr; subst hb
  have hok : okSort l = true := hok
  simp only [okSort, decide_eq_true_eq] at hok
  intro w ro gh xs vals hn hge hgs hown hrow hnro hargs hrolt
  match vals, hargs with
  | [], _ =>
  have hlen := Pl.compact_len l
  rcases hown with ⟨hown, hblk⟩ | ⟨h0, hxs, hblk, ad, hv⟩
  · have hx1 : xs.length = l.length := by rw [hown.1, hgs, hn]; show l.length * 1 = _; omega
    have hxs := row_strs hx1 hrow
    rcases hown.2 with ⟨hnil, hn0⟩ | ⟨g, cap, cur, hgv, hbase, hb, h1, h2, h3, h4⟩
    · have hl0 : l = [] := List.eq_nil_of_length_eq_zero (by omega)
      subst hl0
      rw [hnil]
      refine (Try.slices_Compact_string_empty none 0 w).mono fun e w' he => ?_
      obtain ⟨rfl, rfl⟩ := he
      refine ⟨_, gh, [], rfl, ⟨rfl, rfl, rfl, Nat.le_refl _, fun _ _ _ => rfl⟩, hn, hge, hgs, .inl ⟨?_, hblk⟩, strs_row [], fun g hg => .inl hg, (fun _ => hnil.symm), (fun h => by cases h)⟩
      rw [hnil, hn0]
      exact World.ownsRow_nil _ 0 _ _
    · rw [hgv, hn]
      rw [hge] at hb
      have hsz : gh.sz = 1 := hgs
      rw [hsz, Nat.mul_one] at h3
      rw [hsz, Nat.mul_one, hn, hxs] at h4
      have hcap : l.length ≤ cap := by omega
      refine (Try.slices_Compact_string g 0 cap l w (holds_of_block hb h4) (by omega) hcap).mono fun e w' he => ?_
      obtain ⟨rfl, q, rfl⟩ := he
      have hg2 : gh.blk = some g := by rw [hblk, hgv]; rfl
      have hts : (Lib.compact l ++ List.replicate (l.length - (Lib.compact l).length) []).length = l.length := by simp; omega
      have hown' := ownsRow_sorted (n := q) (os := #[]) (ts := Lib.compact l ++ List.replicate (l.length - (Lib.compact l).length) []) hts (Nat.zero_le g) hb hcap h2 (by rw [h3, Nat.mul_one])
      rw [Sort.grow_empty] at hown'
      have hgb := grownBy_sorted (w := w) (g := g) (n := q) (os := #[]) (Lib.compact l ++ List.replicate (l.length - (Lib.compact l).length) []).toArray
      rw [Sort.grow_empty] at hgb
      have hp := ownsRow_prefix hown' hlen
      rw [List.map_append, List.take_left' (by simp)] at hp
      exact ⟨_, ⟨.slice (some ⟨g, 0, none⟩) (Lib.compact l).length cap, (Lib.compact l).length, E.tid .str, E.size .str, some g⟩, (Lib.compact l).map encStr, rfl, by rw [hg2]; exact hgb, rfl, rfl, rfl, .inl ⟨hp, rfl⟩, strs_row _,
        (fun g' hg' => .inl (by rw [hg2]; exact hg')), (fun _ => rfl), (fun h => by cases h)⟩
  · have hl0 : l = [] := List.eq_nil_of_length_eq_zero (by omega)
    subst hl0
    rw [hv]
    refine (Try.slices_Compact_string_empty ad 0 w).mono fun e w' he => ?_
    obtain ⟨rfl, rfl⟩ := he
    exact ⟨_, gh, [], rfl, ⟨rfl, rfl, rfl, Nat.le_refl _, fun _ _ _ => rfl⟩, hn, hge, hgs, .inr ⟨h0, rfl, hblk, ad, hv⟩, strs_row [], fun g hg => .inl hg, (fun _ => hv.symm), (fun h => by cases h)⟩
/-! ### slices.Grow of nil, at texts -/
theorem zc_size (C : Array Value) (n : Nat) (h : C.size = 1) : (Builtin.zeroCells C n).size = n := by simp [Builtin.zeroCells, h]
theorem grow_gok : GrowOk E 29 .str := by
  refine ⟨⟨Try.f29, by kernel_rfl, by kernel_rfl, by kernel_rfl⟩, fun w n h0 hb => ?_⟩
  have hb : n * 16 ≤ 140737488355328 := hb
  by_cases hz : n = 0
  · subst hz
    go_enter Try.func29, Try.ntmps29
    go_wp2
    go_ret
    exact ⟨⟨.slice none 0 0, 0, E.tid .str, E.size .str, none⟩, rfl, Below.refl _ _, rfl, rfl, rfl, .inl ⟨World.ownsRow_nil w 0 _ _, rfl⟩, fun g hg => by cases hg⟩
  · obtain ⟨k, rfl⟩ : ∃ k : Nat, n = k := ⟨n.toNat, by omega⟩
    obtain ⟨i, z, hi, his, hib, hzz, hzs⟩ := E.info_ok .str
    have h := Lib.run_append_nil_zeros (P := Try.prog) w 22 3 22 9 i z .i64 .i64 Try.underlying22 Try.underlying3 hi hzz k (by omega) (by rw [his]; exact E.size_pos _) (by omega) (by rw [hib]; show k * 16 ≤ _; omega)
    generalize z.cells = C at h hzs
    have hC : C.size = 1 := hzs
    have hcap := grownCap_ge w k 0 9
    go_enter Try.func29, Try.ntmps29
    go_wp2_with (at_builtin; refine Lib.wpList_append_run _ rfl _ _ _ _ rfl _ _ rfl rfl _ _ h ?_)
    go_ret
    refine ⟨⟨.slice (some ⟨w.heap.size, 0, none⟩) 0 (grownCap w k 0 9), 0, E.tid .str, E.size .str, some w.heap.size⟩, rfl, ((Below.refl _ _).alloc (Nat.le_refl _) _).drew, rfl, rfl, rfl, .inl ⟨?_, rfl⟩, fun g hg => by cases hg; exact Nat.le_refl _⟩
    refine World.ownsRow.drew (World.ownsRow_made w _ _ (Nat.zero_le _) ?_ ?_)
    · exact grownCap_le_maxLen w k 0 9 (by unfold maxLen; omega)
    · rw [Array.size_append, zc_size C k hC, zc_size C _ hC]
      show _ = grownCap w k 0 9 * 1
      omega
/-! ### slices.Index, Equal, Concat at texts -/
def ln6 {α : Type} (l : List α) : Bool := decide (l.length ≤ 1000000)
theorem ln6_iff {α : Type} {l : List α} : ln6 l = true ↔ l.length ≤ 1000000 := by simp [ln6]
def idxF (s : List UInt8) : Nat → List (List UInt8) → Int
  | _, [] => -1
  | i, a :: t => if s = a then i else idxF s (i + 1) t
def index (l : List (List UInt8)) (s : List UInt8) : Int := idxF s 0 l
noncomputable def index_W : FnW E := fn2 (E := E) .l_str .str .int (fun l _ => ln6 l) index
def index_id : FuncId := 35
noncomputable def index_O : Oracle E := orac [] [] [] []
noncomputable def index_H : Hint E := Hint.mk [(0, [0, 1, 7, 8])] [] []
noncomputable def index_C0 (v0 : List (List UInt8)) (v1 : List UInt8) (v2 : Int) (v3 : Int) : ASt E := ASt.mk 19 [(0, .d (.slice .str v0)), (1, .d (.str v1)), (7, .d (.int .i64 v2)), (8, .d (.int .i64 v3))] [] 0
noncomputable def index_t (G : Nat → ASt E → Option (List (TV E))) (x0 : List (List UInt8)) (x1 : List UInt8) : Option (List (TV E)) :=
  G 0 (index_C0 x0 x1 (x0.length : Int) (0 : Int))
theorem index_e (G : Nat → ASt E → Option (List (TV E))) (x0 : List (List UInt8)) (x1 : List UInt8) : runE index_O index_H G Try.f35 [⟨.l_str, x0⟩, ⟨.str, x1⟩] = index_t G x0 x1 := by kernel_rfl
noncomputable def index_t0 (G : Nat → ASt E → Option (List (TV E))) (v0 : List (List UInt8)) (v1 : List UInt8) (v2 : Int) (v3 : Int) : Option (List (TV E)) :=
  bif (decide (v3 < v2)) then (bif (decide ((0 : Int) ≤ v3) && decide (v3 < (v0.length : Int))) then (bif (v1 == (List.getD v0 (Int.toNat v3) (dflt .str))) then some [⟨.int, v3⟩] else G 0 (index_C0 v0 v1 v2 (w64 (v3 + (1 : Int))))) else none) else some [⟨.int, (-1 : Int)⟩]
theorem index_l0 (G : Nat → ASt E → Option (List (TV E))) (v0 : List (List UInt8)) (v1 : List UInt8) (v2 : Int) (v3 : Int) : runL index_O index_H G Try.f35 0 (index_C0 v0 v1 v2 v3) = index_t0 G v0 v1 v2 v3 := by kernel_rfl
theorem index_f : Try.prog.funcs[35]? = some Try.f35 := by kernel_rfl
theorem index_n : (Try.f35.name == "runtime.NumGoroutine") = false := by kernel_rfl
theorem index_b : Try.f35.body.isNone = false := by kernel_rfl
theorem index_ex : ∃ fn, Try.prog.funcs[35]? = some fn ∧ (fn.name == "runtime.NumGoroutine") = false ∧ fn.body.isNone = false := ⟨Try.f35, index_f, index_n, index_b⟩
theorem index_hO : OracleOk E index_O := orac_ok .nil .nil .nil .nil
theorem index_s0 {res : List (TV E)} {v0 : List (List UInt8)} {v1 : List UInt8} {v2 : Int} {v3 : Int} (h : index_t0 (Gr E Try.f35 res) v0 v1 v2 v3 = some res) : Ev E Try.f35 res 0 (index_C0 v0 v1 v2 v3) := Ev.step index_hO mix ((index_l0 _ v0 v1 v2 v3).trans h)
theorem index_ok_of (h : ∀ (x0 : List (List UInt8)) (x1 : List UInt8), (fun l _ => ln6 l) x0 x1 = true → index_t (Gr E Try.f35 [⟨.int, index x0 x1⟩]) x0 x1 = some [⟨.int, index x0 x1⟩]) : FnOk E index_id index_W := fn2_ok index_hO mix index_f index_n index_b (fun x0 x1 hk => (index_e _ x0 x1).trans (h x0 x1 hk))
theorem index_loop (l : List (List UInt8)) (s : List UInt8) (hl : l.length ≤ 1000000) : ∀ (m i : Nat), l.length - i = m → i ≤ l.length → Ev E Try.f35 [⟨.int, idxF s i (l.drop i)⟩] 0 (index_C0 l s l.length i) := by
  intro m
  induction m with
  | zero =>
    intro i h1 h2
    refine index_s0 ?_
    simp only [index_t0, dge (show l.length ≤ i by omega), cond_false, List.drop_eq_nil_of_le (show l.length ≤ i by omega)]
    rfl
  | succ m ih =>
    intro i h1 h2
    have hi : i < l.length := by omega
    refine index_s0 ?_
    simp only [index_t0, dlt hi, d0, gd l _ i hi, Bool.and_self, cond_true]
    rw [← List.getElem_cons_drop hi]
    unfold idxF
    by_cases hs : s = l[i]
    · rw [if_pos hs, show (s == l[i]) = true from by simpa using hs]; rfl
    · rw [if_neg hs, show (s == l[i]) = false from by simpa using hs, cond_false, w64_id (by omega) (by omega)]
      exact Gr_of (ih (i + 1) (by omega) (by omega))
theorem index_ok : FnOk E index_id index_W := index_ok_of fun l s hk => by
  have := index_loop l s (ln6_iff.1 hk) l.length 0 (by omega) (by omega)
  rw [List.drop_zero] at this
  exact Gr_of this
def equal (a b : List (List UInt8)) : Bool := a == b
noncomputable def equal_W : FnW E := fn2 (E := E) .l_str .l_str .bool (fun a _ => ln6 a) equal
def equal_id : FuncId := 31
noncomputable def equal_O : Oracle E := orac [] [] [] []
noncomputable def equal_H : Hint E := Hint.mk [(0, [0, 1, 12, 13])] [] []
noncomputable def equal_C0 (v0 : List (List UInt8)) (v1 : List (List UInt8)) (v2 : Int) (v3 : Int) : ASt E := ASt.mk 26 [(0, .d (.slice .str v0)), (1, .d (.slice .str v1)), (12, .d (.int .i64 v2)), (13, .d (.int .i64 v3))] [] 0
noncomputable def equal_t (G : Nat → ASt E → Option (List (TV E))) (x0 : List (List UInt8)) (x1 : List (List UInt8)) : Option (List (TV E)) :=
  bif ((x0.length : Int) != (x1.length : Int)) then some [⟨.bool, false⟩] else G 0 (equal_C0 x0 x1 (x0.length : Int) (0 : Int))
theorem equal_e (G : Nat → ASt E → Option (List (TV E))) (x0 : List (List UInt8)) (x1 : List (List UInt8)) : runE equal_O equal_H G Try.f31 [⟨.l_str, x0⟩, ⟨.l_str, x1⟩] = equal_t G x0 x1 := by kernel_rfl
noncomputable def equal_t0 (G : Nat → ASt E → Option (List (TV E))) (v0 : List (List UInt8)) (v1 : List (List UInt8)) (v2 : Int) (v3 : Int) : Option (List (TV E)) :=
  bif (decide (v3 < v2)) then (bif (decide ((0 : Int) ≤ v3) && decide (v3 < (v0.length : Int))) then (bif (decide ((0 : Int) ≤ v3) && decide (v3 < (v1.length : Int))) then (bif (!((List.getD v0 (Int.toNat v3) (dflt .str)) == (List.getD v1 (Int.toNat v3) (dflt .str)))) then some [⟨.bool, false⟩] else G 0 (equal_C0 v0 v1 v2 (w64 (v3 + (1 : Int))))) else none) else none) else some [⟨.bool, true⟩]
theorem equal_l0 (G : Nat → ASt E → Option (List (TV E))) (v0 : List (List UInt8)) (v1 : List (List UInt8)) (v2 : Int) (v3 : Int) : runL equal_O equal_H G Try.f31 0 (equal_C0 v0 v1 v2 v3) = equal_t0 G v0 v1 v2 v3 := by kernel_rfl
theorem equal_f : Try.prog.funcs[31]? = some Try.f31 := by kernel_rfl
theorem equal_n : (Try.f31.name == "runtime.NumGoroutine") = false := by kernel_rfl
theorem equal_b : Try.f31.body.isNone = false := by kernel_rfl
theorem equal_ex : ∃ fn, Try.prog.funcs[31]? = some fn ∧ (fn.name == "runtime.NumGoroutine") = false ∧ fn.body.isNone = false := ⟨Try.f31, equal_f, equal_n, equal_b⟩
theorem equal_hO : OracleOk E equal_O := orac_ok .nil .nil .nil .nil
theorem equal_s0 {res : List (TV E)} {v0 : List (List UInt8)} {v1 : List (List UInt8)} {v2 : Int} {v3 : Int} (h : equal_t0 (Gr E Try.f31 res) v0 v1 v2 v3 = some res) : Ev E Try.f31 res 0 (equal_C0 v0 v1 v2 v3) := Ev.step equal_hO mix ((equal_l0 _ v0 v1 v2 v3).trans h)
theorem equal_ok_of (h : ∀ (x0 : List (List UInt8)) (x1 : List (List UInt8)), (fun a _ => ln6 a) x0 x1 = true → equal_t (Gr E Try.f31 [⟨.bool, equal x0 x1⟩]) x0 x1 = some [⟨.bool, equal x0 x1⟩]) : FnOk E equal_id equal_W := fn2_ok equal_hO mix equal_f equal_n equal_b (fun x0 x1 hk => (equal_e _ x0 x1).trans (h x0 x1 hk))
theorem equal_loop (a b : List (List UInt8)) (ha : a.length ≤ 1000000) (hab : a.length = b.length) : ∀ (m i : Nat), a.length - i = m → i ≤ a.length → Ev E Try.f31 [⟨.bool, a.drop i == b.drop i⟩] 0 (equal_C0 a b a.length i) := by
  intro m
  induction m with
  | zero =>
    intro i h1 h2
    refine equal_s0 ?_
    simp only [equal_t0, dge (show a.length ≤ i by omega), cond_false, List.drop_eq_nil_of_le (show a.length ≤ i by omega), List.drop_eq_nil_of_le (show b.length ≤ i by omega)]
    rfl
  | succ m ih =>
    intro i h1 h2
    have hi : i < a.length := by omega
    have hj : i < b.length := by omega
    refine equal_s0 ?_
    simp only [equal_t0, dlt hi, dlt hj, d0, gd a _ i hi, gd b _ i hj, Bool.and_self, cond_true]
    rw [← List.getElem_cons_drop hi, ← List.getElem_cons_drop hj, w64_id (by omega) (by omega)]
    by_cases hs : a[i] = b[i]
    · have e : (a[i] :: a.drop (i + 1) == b[i] :: b.drop (i + 1)) = (a.drop (i + 1) == b.drop (i + 1)) := by rw [List.cons_beq_cons]; simp [hs]
      rw [e, show (a[i] == b[i]) = true from by simpa using hs]
      exact Gr_of (ih (i + 1) (by omega) (by omega))
    · have e : (a[i] :: a.drop (i + 1) == b[i] :: b.drop (i + 1)) = false := by rw [List.cons_beq_cons]; simp [hs]
      rw [e, show (a[i] == b[i]) = false from by simpa using hs]
      rfl
theorem equal_ok : FnOk E equal_id equal_W := equal_ok_of fun a b hk => by
  simp only [equal_t]
  by_cases h : a.length = b.length
  · rw [neF (by omega), cond_false]
    have := equal_loop a b (ln6_iff.1 hk) h a.length 0 (by omega) (by omega)
    rw [List.drop_zero, List.drop_zero] at this
    exact Gr_of this
  · rw [neT (by omega), cond_true]
    have : equal a b = false := by simp only [equal, beq_eq_false_iff_ne]; exact fun e => h (by rw [e])
    rw [this]
def lens (l : List (List (List UInt8))) : Nat := (l.map List.length).sum
def okCat (l : List (List (List UInt8))) : Bool := decide (l.length ≤ 1000000) && decide (lens l ≤ 1000000)
noncomputable def concat_W : FnW E := fn1 (E := E) .l_l_str .l_str okCat List.flatten
def concat_id : FuncId := 24
noncomputable def concat_O : Oracle E := orac [] [] [] [(29, .str)]
noncomputable def concat_H : Hint E := Hint.mk [(0, [0, 3, 9, 10, 11]), (1, [6, 25, 26, 27])] [] []
noncomputable def concat_C0 (v0 : List (List (List UInt8))) (v1 : Int) (v2 : List (List (List UInt8))) (v3 : Int) (v4 : Int) : ASt E := ASt.mk 36 [(0, .d (.slice .l_str v0)), (3, .d (.int .i64 v1)), (9, .d (.slice .l_str v2)), (10, .d (.int .i64 v3)), (11, .d (.int .i64 v4))] [] 0
noncomputable def concat_C1 (v0 : Nat) (v1 : List (List (List UInt8))) (v2 : Int) (v3 : Int) (v4 : List (List UInt8)) : ASt E := ASt.mk 36 [(6, .row .str v0 0), (25, .d (.slice .l_str v1)), (26, .d (.int .i64 v2)), (27, .d (.int .i64 v3))] [(0, .row .str v4)] 1
noncomputable def concat_t (G : Nat → ASt E → Option (List (TV E))) (x0 : List (List (List UInt8))) : Option (List (TV E)) :=
  G 0 (concat_C0 x0 (0 : Int) x0 (x0.length : Int) (0 : Int))
theorem concat_e (G : Nat → ASt E → Option (List (TV E))) (x0 : List (List (List UInt8))) : runE concat_O concat_H G Try.f24 [⟨.l_l_str, x0⟩] = concat_t G x0 := by kernel_rfl
noncomputable def concat_t0 (G : Nat → ASt E → Option (List (TV E))) (v0 : List (List (List UInt8))) (v1 : Int) (v2 : List (List (List UInt8))) (v3 : Int) (v4 : Int) : Option (List (TV E)) :=
  bif (decide (v4 < v3)) then (bif (decide ((0 : Int) ≤ v4) && decide (v4 < (v2.length : Int))) then (bif (decide ((w64 (v1 + ((List.getD v2 (Int.toNat v4) (dflt .l_str)).length : Int))) < (0 : Int))) then none else G 0 (concat_C0 v0 (w64 (v1 + ((List.getD v2 (Int.toNat v4) (dflt .l_str)).length : Int))) v2 v3 (w64 (v4 + (1 : Int))))) else none) else (bif (decide ((0 : Int) ≤ v1) && decide (v1 * (16 : Int) ≤ 140737488355328)) then G 1 (concat_C1 0 v0 (v0.length : Int) (0 : Int) ([] : List (List UInt8))) else none)
theorem concat_l0 (G : Nat → ASt E → Option (List (TV E))) (v0 : List (List (List UInt8))) (v1 : Int) (v2 : List (List (List UInt8))) (v3 : Int) (v4 : Int) : runL concat_O concat_H G Try.f24 0 (concat_C0 v0 v1 v2 v3 v4) = concat_t0 G v0 v1 v2 v3 v4 := by kernel_rfl
noncomputable def concat_t1 (G : Nat → ASt E → Option (List (TV E))) (_v0 : Nat) (v1 : List (List (List UInt8))) (v2 : Int) (v3 : Int) (v4 : List (List UInt8)) : Option (List (TV E)) :=
  bif (decide (v3 < v2)) then (bif (decide ((0 : Int) ≤ v3) && decide (v3 < (v1.length : Int))) then (bif (decide ((v4.length + (List.getD v1 (Int.toNat v3) (dflt .l_str)).length) * 16 ≤ maxBytes)) then G 1 (concat_C1 (v4.length + (List.getD v1 (Int.toNat v3) (dflt .l_str)).length) v1 v2 (w64 (v3 + (1 : Int))) (v4 ++ (List.getD v1 (Int.toNat v3) (dflt .l_str)))) else none) else none) else some [⟨.l_str, v4⟩]
theorem concat_l1 (G : Nat → ASt E → Option (List (TV E))) (v0 : Nat) (v1 : List (List (List UInt8))) (v2 : Int) (v3 : Int) (v4 : List (List UInt8)) : runL concat_O concat_H G Try.f24 1 (concat_C1 v0 v1 v2 v3 v4) = concat_t1 G v0 v1 v2 v3 v4 := by kernel_rfl
theorem concat_f : Try.prog.funcs[24]? = some Try.f24 := by kernel_rfl
theorem concat_n : (Try.f24.name == "runtime.NumGoroutine") = false := by kernel_rfl
theorem concat_b : Try.f24.body.isNone = false := by kernel_rfl
theorem concat_ex : ∃ fn, Try.prog.funcs[24]? = some fn ∧ (fn.name == "runtime.NumGoroutine") = false ∧ fn.body.isNone = false := ⟨Try.f24, concat_f, concat_n, concat_b⟩
theorem concat_hO : OracleOk E concat_O := orac_ok .nil .nil .nil (.cons grow_gok .nil)
theorem concat_s0 {res : List (TV E)} {v0 : List (List (List UInt8))} {v1 : Int} {v2 : List (List (List UInt8))} {v3 : Int} {v4 : Int} (h : concat_t0 (Gr E Try.f24 res) v0 v1 v2 v3 v4 = some res) : Ev E Try.f24 res 0 (concat_C0 v0 v1 v2 v3 v4) := Ev.step concat_hO mix ((concat_l0 _ v0 v1 v2 v3 v4).trans h)
theorem concat_s1 {res : List (TV E)} {v0 : Nat} {v1 : List (List (List UInt8))} {v2 : Int} {v3 : Int} {v4 : List (List UInt8)} (h : concat_t1 (Gr E Try.f24 res) v0 v1 v2 v3 v4 = some res) : Ev E Try.f24 res 1 (concat_C1 v0 v1 v2 v3 v4) := Ev.step concat_hO mix ((concat_l1 _ v0 v1 v2 v3 v4).trans h)
theorem concat_ok_of (h : ∀ (x0 : List (List (List UInt8))), okCat x0 = true → concat_t (Gr E Try.f24 [⟨.l_str, List.flatten x0⟩]) x0 = some [⟨.l_str, List.flatten x0⟩]) : FnOk E concat_id concat_W := fn1_ok concat_hO mix concat_f concat_n concat_b (fun x0 hk => (concat_e _ x0).trans (h x0 hk))
theorem lens_take (l : List (List (List UInt8))) (i : Nat) (hi : i < l.length) : lens (l.take (i + 1)) = lens (l.take i) + l[i].length := by
  unfold lens
  rw [← List.take_append_getElem hi, List.map_append, List.sum_append]
  rfl
theorem lens_le (l : List (List (List UInt8))) : ∀ i, lens (l.take i) ≤ lens l := by
  intro i
  have : lens l = lens (l.take i) + lens (l.drop i) := by
    unfold lens
    rw [← List.sum_append, ← List.map_append, List.take_append_drop]
  omega
theorem concat_1 (l : List (List (List UInt8))) (hl : l.length ≤ 1000000) (hs : lens l ≤ 1000000) : ∀ (m i v0 : Nat) (out : List (List UInt8)), l.length - i = m → i ≤ l.length → out.length = lens (l.take i) → v0 = out.length →
    Ev E Try.f24 [⟨.l_str, out ++ (l.drop i).flatten⟩] 1 (concat_C1 v0 l l.length i out) := by
  intro m
  induction m with
  | zero =>
    intro i v0 out h1 h2 h3 h4
    refine concat_s1 ?_
    simp only [concat_t1, dge (show l.length ≤ i by omega), cond_false, List.drop_eq_nil_of_le (show l.length ≤ i by omega), List.flatten_nil, List.append_nil]
  | succ m ih =>
    intro i v0 out h1 h2 h3 h4
    have hi : i < l.length := by omega
    have h5 := lens_take l i hi
    have h6 := lens_le l (i + 1)
    refine concat_s1 ?_
    simp only [concat_t1, dlt hi, d0, gd l _ i hi, Bool.and_self, cond_true]
    rw [dT (show (out.length + l[i].length) * 16 ≤ maxBytes by rw [mb]; omega), cond_true, w64_id (by omega) (by omega), ← List.getElem_cons_drop hi, List.flatten_cons, ← List.append_assoc]
    exact Gr_of (ih (i + 1) _ (out ++ l[i]) (by omega) (by omega) (by rw [List.length_append]; omega) (by rw [List.length_append]))
theorem concat_0 (l : List (List (List UInt8))) (hl : l.length ≤ 1000000) (hs : lens l ≤ 1000000) : ∀ (m i : Nat), l.length - i = m → i ≤ l.length →
    Ev E Try.f24 [⟨.l_str, l.flatten⟩] 0 (concat_C0 l (lens (l.take i)) l l.length i) := by
  intro m
  induction m with
  | zero =>
    intro i h1 h2
    have e : l.take i = l := List.take_of_length_le (by omega)
    refine concat_s0 ?_
    simp only [concat_t0, dge (show l.length ≤ i by omega), cond_false, e, d0]
    rw [dT (show (lens l : Int) * 16 ≤ 140737488355328 by omega), Bool.and_self, cond_true]
    have := concat_1 l hl hs l.length 0 0 [] (by omega) (by omega) (by simp [lens]) rfl
    rw [List.drop_zero, List.nil_append] at this
    exact Gr_of this
  | succ m ih =>
    intro i h1 h2
    have hi : i < l.length := by omega
    have h5 := lens_take l i hi
    have h6 := lens_le l (i + 1)
    refine concat_s0 ?_
    simp only [concat_t0, dlt hi, d0, gd l _ i hi, Bool.and_self, cond_true]
    rw [w64_id (n := (lens (l.take i) : Int) + (l[i].length : Int)) (by omega) (by omega), dF (by omega), cond_false, w64_id (by omega) (by omega), show (lens (l.take i) : Int) + (l[i].length : Int) = (lens (l.take (i + 1)) : Nat) from by omega]
    exact Gr_of (ih (i + 1) (by omega) (by omega))
theorem concat_ok : FnOk E concat_id concat_W := concat_ok_of fun l hk => by
  simp only [okCat, Bool.and_eq_true, decide_eq_true_eq] at hk
  exact Gr_of (concat_0 l hk.1 hk.2 l.length 0 (by omega) (by omega))
/-! ### Package name: lists of texts -/
noncomputable def nsorted_W : FnW E := fn1 (E := E) .l_str .l_str ln6 Pl.sortD
def nsorted_id : FuncId := 23
noncomputable def nsorted_O : Oracle E := orac [] [] [(28, compact_M), (27, sort_M)] []
noncomputable def nsorted_H : Hint E := Hint.mk [] [] []
noncomputable def nsorted_t (_G : Nat → ASt E → Option (List (TV E))) (x0 : List (List UInt8)) : Option (List (TV E)) :=
  bif (decide ((([] : List (List UInt8)).length + x0.length) * 16 ≤ maxBytes)) then (bif (okSort (([] : List (List UInt8)) ++ x0)) then (bif (okSort (Pl.msort (([] : List (List UInt8)) ++ x0))) then some [⟨.l_str, (Lib.compact (Pl.msort (([] : List (List UInt8)) ++ x0)))⟩] else none) else none) else none
theorem nsorted_e (G : Nat → ASt E → Option (List (TV E))) (x0 : List (List UInt8)) : runE nsorted_O nsorted_H G Try.f23 [⟨.l_str, x0⟩] = nsorted_t G x0 := by kernel_rfl
theorem nsorted_f : Try.prog.funcs[23]? = some Try.f23 := by kernel_rfl
theorem nsorted_n : (Try.f23.name == "runtime.NumGoroutine") = false := by kernel_rfl
theorem nsorted_b : Try.f23.body.isNone = false := by kernel_rfl
theorem nsorted_ex : ∃ fn, Try.prog.funcs[23]? = some fn ∧ (fn.name == "runtime.NumGoroutine") = false ∧ fn.body.isNone = false := ⟨Try.f23, nsorted_f, nsorted_n, nsorted_b⟩
theorem nsorted_hO : OracleOk E nsorted_O := orac_ok .nil .nil (.cons compact_mok (.cons sort_mok .nil)) .nil
theorem nsorted_ok_of (h : ∀ (x0 : List (List UInt8)), ln6 x0 = true → nsorted_t (Gr E Try.f23 [⟨.l_str, Pl.sortD x0⟩]) x0 = some [⟨.l_str, Pl.sortD x0⟩]) : FnOk E nsorted_id nsorted_W := fn1_ok nsorted_hO mix nsorted_f nsorted_n nsorted_b (fun x0 hk => (nsorted_e _ x0).trans (h x0 hk))
theorem nsorted_ok : FnOk E nsorted_id nsorted_W := nsorted_ok_of fun l hk => by
  have hl := ln6_iff.1 hk
  have h1 : okSort (([] : List (List UInt8)) ++ l) = true := by simpa [okSort] using hl
  have h2 : okSort (Pl.msort (([] : List (List UInt8)) ++ l)) = true := by simp only [okSort, decide_eq_true_eq, Pl.msort_len]; simpa using hl
  simp only [nsorted_t, h1, h2, cond_true]
  rw [dT (show (([] : List (List UInt8)).length + l.length) * 16 ≤ maxBytes by rw [mb, List.length_nil]; omega)]
  rfl
def both (a b : List (List UInt8)) : List (List UInt8) := Pl.sortD (a ++ b)
def ln5 (a b : List (List UInt8)) : Bool := decide (a.length + b.length ≤ 100000)
noncomputable def nboth_W : FnW E := fn2 (E := E) .l_str .l_str .l_str ln5 both
def nboth_id : FuncId := 17
noncomputable def nboth_O : Oracle E := orac [(23, nsorted_W), (24, concat_W)] [] [] []
noncomputable def nboth_H : Hint E := Hint.mk [] [] []
noncomputable def nboth_t (_G : Nat → ASt E → Option (List (TV E))) (x0 : List (List UInt8)) (x1 : List (List UInt8)) : Option (List (TV E)) :=
  bif (okCat ([x0, x1] : List (List (List UInt8)))) then (bif (ln6 (List.flatten ([x0, x1] : List (List (List UInt8))))) then some [⟨.l_str, (Pl.sortD (List.flatten ([x0, x1] : List (List (List UInt8)))))⟩] else none) else none
theorem nboth_e (G : Nat → ASt E → Option (List (TV E))) (x0 : List (List UInt8)) (x1 : List (List UInt8)) : runE nboth_O nboth_H G Try.f17 [⟨.l_str, x0⟩, ⟨.l_str, x1⟩] = nboth_t G x0 x1 := by kernel_rfl
theorem nboth_f : Try.prog.funcs[17]? = some Try.f17 := by kernel_rfl
theorem nboth_n : (Try.f17.name == "runtime.NumGoroutine") = false := by kernel_rfl
theorem nboth_b : Try.f17.body.isNone = false := by kernel_rfl
theorem nboth_ex : ∃ fn, Try.prog.funcs[17]? = some fn ∧ (fn.name == "runtime.NumGoroutine") = false ∧ fn.body.isNone = false := ⟨Try.f17, nboth_f, nboth_n, nboth_b⟩
theorem nboth_hO : OracleOk E nboth_O := orac_ok (.cons nsorted_ok (.cons concat_ok .nil)) .nil .nil .nil
theorem nboth_ok_of (h : ∀ (x0 : List (List UInt8)) (x1 : List (List UInt8)), ln5 x0 x1 = true → nboth_t (Gr E Try.f17 [⟨.l_str, both x0 x1⟩]) x0 x1 = some [⟨.l_str, both x0 x1⟩]) : FnOk E nboth_id nboth_W := fn2_ok nboth_hO mix nboth_f nboth_n nboth_b (fun x0 x1 hk => (nboth_e _ x0 x1).trans (h x0 x1 hk))
theorem nboth_ok : FnOk E nboth_id nboth_W := nboth_ok_of fun a b hk => by
  simp only [ln5, decide_eq_true_eq] at hk
  have e : List.flatten [a, b] = a ++ b := by simp
  have h1 : okCat [a, b] = true := by simp only [okCat, lens, Bool.and_eq_true, decide_eq_true_eq]; simp; omega
  have h2 : ln6 (a ++ b) = true := by rw [ln6_iff, List.length_append]; omega
  simp only [nboth_t, h1, e, h2, cond_true]
  rfl
noncomputable def nat_W : FnW E := fn2 (E := E) .l_str .str .int (fun l _ => ln6 l) index
def nat_id : FuncId := 30
noncomputable def nat_O : Oracle E := orac [(35, index_W)] [] [] []
noncomputable def nat_H : Hint E := Hint.mk [] [] []
noncomputable def nat_t (_G : Nat → ASt E → Option (List (TV E))) (x0 : List (List UInt8)) (x1 : List UInt8) : Option (List (TV E)) :=
  bif ((fun l _ => ln6 l) x0 x1) then some [⟨.int, (index x0 x1)⟩] else none
theorem nat_e (G : Nat → ASt E → Option (List (TV E))) (x0 : List (List UInt8)) (x1 : List UInt8) : runE nat_O nat_H G Try.f30 [⟨.l_str, x0⟩, ⟨.str, x1⟩] = nat_t G x0 x1 := by kernel_rfl
theorem nat_f : Try.prog.funcs[30]? = some Try.f30 := by kernel_rfl
theorem nat_n : (Try.f30.name == "runtime.NumGoroutine") = false := by kernel_rfl
theorem nat_b : Try.f30.body.isNone = false := by kernel_rfl
theorem nat_ex : ∃ fn, Try.prog.funcs[30]? = some fn ∧ (fn.name == "runtime.NumGoroutine") = false ∧ fn.body.isNone = false := ⟨Try.f30, nat_f, nat_n, nat_b⟩
theorem nat_hO : OracleOk E nat_O := orac_ok (.cons index_ok .nil) .nil .nil .nil
theorem nat_ok_of (h : ∀ (x0 : List (List UInt8)) (x1 : List UInt8), (fun l _ => ln6 l) x0 x1 = true → nat_t (Gr E Try.f30 [⟨.int, index x0 x1⟩]) x0 x1 = some [⟨.int, index x0 x1⟩]) : FnOk E nat_id nat_W := fn2_ok nat_hO mix nat_f nat_n nat_b (fun x0 x1 hk => (nat_e _ x0 x1).trans (h x0 x1 hk))
theorem nat_ok : FnOk E nat_id nat_W := nat_ok_of fun l s hk => by simp only [nat_t, hk, cond_true]
/-! ### Package node -/
theorem node_eta (x : Node) : (⟨x.kind, x.text, x.keys, x.kids⟩ : Node) = x := by cases x; rfl
def zn : Node := ⟨0, [], [], []⟩
def lk : List (List UInt8) → List Node → List UInt8 → Option Node
  | a :: t, v :: w, k => if k = a then some v else lk t w k
  | _, _, _ => none
def get (n : Node) (k : List UInt8) : Option Node := if n.kind = 3 then lk n.keys n.kids k else none
def getV (n : Node) (k : List UInt8) : Node := (get n k).getD zn
def getB (n : Node) (k : List UInt8) : Bool := (get n k).isSome
/-- A map's rows fit. -/
def fit (n : Node) : Bool := decide (n.keys.length ≤ 1000000) && decide (n.kids.length ≤ 1000000) && (n.kind != 3 || decide (n.keys.length = n.kids.length))
theorem fit_iff {n : Node} : fit n = true ↔ (n.keys.length ≤ 1000000 ∧ n.kids.length ≤ 1000000) ∧ (n.kind = 3 → n.keys.length = n.kids.length) := by
  simp only [fit, Bool.and_eq_true, Bool.or_eq_true, decide_eq_true_eq, bne_iff_ne]
  constructor
  · rintro ⟨h, h2⟩
    exact ⟨h, fun e => h2.resolve_left (fun h => h e)⟩
  · rintro ⟨h, h2⟩
    refine ⟨h, ?_⟩
    by_cases e : n.kind = 3
    · exact .inr (h2 e)
    · exact .inl e
def place (n : Node) (k : List UInt8) : Int := if n.kind = 3 then index n.keys k else -1
noncomputable def nplace_W : FnW E := fn2 (E := E) .api_Node .str .int (fun n _ => fit n) place
def nplace_id : FuncId := 25
noncomputable def nplace_O : Oracle E := orac [(30, nat_W)] [] [] []
noncomputable def nplace_H : Hint E := Hint.mk [] [] []
noncomputable def nplace_t (_G : Nat → ASt E → Option (List (TV E))) (x0 : Node) (x1 : List UInt8) : Option (List (TV E)) :=
  bif (bif (x0.kind != (3 : Int)) then true else ((x0.keys.length : Int) != (x0.kids.length : Int))) then some [⟨.int, (-1 : Int)⟩] else (bif ((fun l _ => ln6 l) x0.keys x1) then some [⟨.int, (index x0.keys x1)⟩] else none)
theorem nplace_e (G : Nat → ASt E → Option (List (TV E))) (x0 : Node) (x1 : List UInt8) : runE nplace_O nplace_H G Try.f25 [⟨.api_Node, x0⟩, ⟨.str, x1⟩] = nplace_t G x0 x1 := by kernel_rfl
theorem nplace_f : Try.prog.funcs[25]? = some Try.f25 := by kernel_rfl
theorem nplace_n : (Try.f25.name == "runtime.NumGoroutine") = false := by kernel_rfl
theorem nplace_b : Try.f25.body.isNone = false := by kernel_rfl
theorem nplace_ex : ∃ fn, Try.prog.funcs[25]? = some fn ∧ (fn.name == "runtime.NumGoroutine") = false ∧ fn.body.isNone = false := ⟨Try.f25, nplace_f, nplace_n, nplace_b⟩
theorem nplace_hO : OracleOk E nplace_O := orac_ok (.cons nat_ok .nil) .nil .nil .nil
theorem nplace_ok_of (h : ∀ (x0 : Node) (x1 : List UInt8), (fun n _ => fit n) x0 x1 = true → nplace_t (Gr E Try.f25 [⟨.int, place x0 x1⟩]) x0 x1 = some [⟨.int, place x0 x1⟩]) : FnOk E nplace_id nplace_W := fn2_ok nplace_hO mix nplace_f nplace_n nplace_b (fun x0 x1 hk => (nplace_e _ x0 x1).trans (h x0 x1 hk))
theorem nplace_ok : FnOk E nplace_id nplace_W := nplace_ok_of fun n k hk => by
  have hf := fit_iff.1 hk
  have h1 : ln6 n.keys = true := ln6_iff.2 hf.1.1
  unfold place
  by_cases h : n.kind = 3
  · rw [if_pos h]
    simp only [nplace_t, h1, cond_true, neF h, cond_false]
    rw [neF (by have := hf.2 h; omega), cond_false]
  · rw [if_neg h]
    simp only [nplace_t, neT h, cond_true]
theorem idx_lk : ∀ (keys : List (List UInt8)) (kids : List Node) (k : List UInt8) (i : Nat), keys.length = kids.length →
    (idxF k i keys = -1 ∧ lk keys kids k = none) ∨ ∃ (j : Nat) (h : j < kids.length), idxF k i keys = ((i + j : Nat) : Int) ∧ lk keys kids k = some kids[j]
  | [], [], k, i, _ => .inl ⟨rfl, rfl⟩
  | a :: t, v :: w, k, i, h => by
    unfold idxF lk
    by_cases e : k = a
    · rw [if_pos e, if_pos e]
      exact .inr ⟨0, by simp, by simp, rfl⟩
    · rw [if_neg e, if_neg e]
      rcases idx_lk t w k (i + 1) (by simpa using h) with h1 | ⟨j, hj, h1, h2⟩
      · exact .inl h1
      · exact .inr ⟨j + 1, by simpa using hj, by rw [h1]; omega, by simpa using h2⟩
  | [], _ :: _, _, _, h => by simp at h
  | _ :: _, [], _, _, h => by simp at h
noncomputable def nget_W : FnW E := fn22 (E := E) .api_Node .str .api_Node .bool (fun n _ => fit n) getV getB
def nget_id : FuncId := 18
noncomputable def nget_O : Oracle E := orac [(25, nplace_W)] [] [] []
noncomputable def nget_H : Hint E := Hint.mk [] [] []
noncomputable def nget_t (_G : Nat → ASt E → Option (List (TV E))) (x0 : Node) (x1 : List UInt8) : Option (List (TV E)) :=
  bif ((fun n _ => fit n) (⟨x0.kind, x0.text, x0.keys, x0.kids⟩ : Node) x1) then (bif (decide ((place (⟨x0.kind, x0.text, x0.keys, x0.kids⟩ : Node) x1) < (0 : Int))) then some [⟨.api_Node, (⟨(0 : Int), ([] : List UInt8), ([] : List (List UInt8)), ([] : List Node)⟩ : Node)⟩, ⟨.bool, false⟩] else (bif (decide ((0 : Int) ≤ (place (⟨x0.kind, x0.text, x0.keys, x0.kids⟩ : Node) x1)) && decide ((place (⟨x0.kind, x0.text, x0.keys, x0.kids⟩ : Node) x1) < (x0.kids.length : Int))) then some [⟨.api_Node, (⟨(List.getD x0.kids (Int.toNat (place (⟨x0.kind, x0.text, x0.keys, x0.kids⟩ : Node) x1)) (dflt .api_Node)).kind, (List.getD x0.kids (Int.toNat (place (⟨x0.kind, x0.text, x0.keys, x0.kids⟩ : Node) x1)) (dflt .api_Node)).text, (List.getD x0.kids (Int.toNat (place (⟨x0.kind, x0.text, x0.keys, x0.kids⟩ : Node) x1)) (dflt .api_Node)).keys, (List.getD x0.kids (Int.toNat (place (⟨x0.kind, x0.text, x0.keys, x0.kids⟩ : Node) x1)) (dflt .api_Node)).kids⟩ : Node)⟩, ⟨.bool, true⟩] else none)) else none
theorem nget_e (G : Nat → ASt E → Option (List (TV E))) (x0 : Node) (x1 : List UInt8) : runE nget_O nget_H G Try.f18 [⟨.api_Node, x0⟩, ⟨.str, x1⟩] = nget_t G x0 x1 := by kernel_rfl
theorem nget_f : Try.prog.funcs[18]? = some Try.f18 := by kernel_rfl
theorem nget_n : (Try.f18.name == "runtime.NumGoroutine") = false := by kernel_rfl
theorem nget_b : Try.f18.body.isNone = false := by kernel_rfl
theorem nget_ex : ∃ fn, Try.prog.funcs[18]? = some fn ∧ (fn.name == "runtime.NumGoroutine") = false ∧ fn.body.isNone = false := ⟨Try.f18, nget_f, nget_n, nget_b⟩
theorem nget_hO : OracleOk E nget_O := orac_ok (.cons nplace_ok .nil) .nil .nil .nil
theorem nget_ok_of (h : ∀ (x0 : Node) (x1 : List UInt8), (fun n _ => fit n) x0 x1 = true → nget_t (Gr E Try.f18 [⟨.api_Node, getV x0 x1⟩, ⟨.bool, getB x0 x1⟩]) x0 x1 = some [⟨.api_Node, getV x0 x1⟩, ⟨.bool, getB x0 x1⟩]) : FnOk E nget_id nget_W := fn22_ok nget_hO mix nget_f nget_n nget_b (fun x0 x1 hk => (nget_e _ x0 x1).trans (h x0 x1 hk))
theorem nget_ok : FnOk E nget_id nget_W := nget_ok_of fun n k hk => by
  have hf := fit_iff.1 hk
  simp only [nget_t, node_eta, hk, cond_true]
  by_cases h : n.kind = 3
  · have hp : place n k = idxF k 0 n.keys := by unfold place index; rw [if_pos h]
    have hg : get n k = lk n.keys n.kids k := if_pos h
    unfold getV getB
    rw [hg, hp]
    rcases idx_lk n.keys n.kids k 0 (hf.2 h) with ⟨h1, h2⟩ | ⟨j, hj, h1, h2⟩
    · rw [h1, h2]; rfl
    · rw [h1, h2, Nat.zero_add, dF (by omega), cond_false, d0, dlt hj, Bool.and_self, cond_true, gd n.kids _ j hj]
      rfl
  · have hp : place n k = -1 := by unfold place; rw [if_neg h]
    have hg : get n k = none := if_neg h
    unfold getV getB
    rw [hg, hp]
    rfl
def sameW (f : Node → Node → Bool) : List Node → List Node → Bool
  | [], [] => true
  | a :: s, b :: t => f a b && sameW f s t
  | _, _ => false
def same : Nat → Node → Node → Bool
  | 0, _, _ => false
  | n + 1, a, b => a.kind == b.kind && (a.text == b.text && (a.keys == b.keys && sameW (same n) a.kids b.kids))
/-- Depth at most n, rows of at most 1000000. -/
def dp : Nat → Node → Bool
  | 0, _ => false
  | n + 1, x => decide (x.keys.length ≤ 1000000) && decide (x.kids.length ≤ 1000000) && x.kids.all (dp n)
theorem dp_iff {n : Nat} {x : Node} : dp (n + 1) x = true ↔ (x.keys.length ≤ 1000000 ∧ x.kids.length ≤ 1000000) ∧ ∀ y ∈ x.kids, dp n y = true := by
  simp only [dp, Bool.and_eq_true, decide_eq_true_eq, List.all_eq_true]
def okS (n : Nat) (a b : Node) : Bool := dp n a && dp n b
def okE (n : Nat) (a b : List Node) (f : Nat) : Bool := decide (f = 26) && (decide (a.length ≤ 1000000) && (a.all (dp n) && b.all (dp n)))
def sameL (n : Nat) (a b : List Node) (_ : Nat) : Bool := sameW (same n) a b
noncomputable def nsame_W (n : Nat) : FnW E := fn2 (E := E) .api_Node .api_Node .bool (okS n) (same n)
def nsame_id : FuncId := 26
noncomputable def eqf_W (n : Nat) : FnW E := fn3 (E := E) .l_api_Node .l_api_Node .fn28 .bool (okE n) (sameL n)
def eqf_id : FuncId := 32
noncomputable def eqf_O (n : Nat) : Oracle E := orac [(26, nsame_W n)] [] [] []
noncomputable def eqf_H : Hint E := Hint.mk [(0, [1, 2, 15, 16, 17])] [] []
noncomputable def eqf_C0 (v0 : List Node) (v1 : List Node) (v2 : Int) (v3 : Int) : ASt E := ASt.mk 32 [(1, .d (.slice .api_Node v0)), (2, .d (.raw (.func (.func 26) #[] #[]))), (15, .d (.slice .api_Node v1)), (16, .d (.int .i64 v2)), (17, .d (.int .i64 v3))] [] 0
noncomputable def eqf_t (_n : Nat) (G : Nat → ASt E → Option (List (TV E))) (x0 : List Node) (x1 : List Node) : Option (List (TV E)) :=
  bif ((x0.length : Int) != (x1.length : Int)) then some [⟨.bool, false⟩] else G 0 (eqf_C0 x1 x0 (x0.length : Int) (0 : Int))
theorem eqf_e (n : Nat) (G : Nat → ASt E → Option (List (TV E))) (x0 : List Node) (x1 : List Node) : runE (eqf_O n) eqf_H G Try.f32 [⟨.l_api_Node, x0⟩, ⟨.l_api_Node, x1⟩, ⟨.fn28, 26⟩] = eqf_t n G x0 x1 := by kernel_rfl
noncomputable def eqf_t0 (n : Nat) (G : Nat → ASt E → Option (List (TV E))) (v0 : List Node) (v1 : List Node) (v2 : Int) (v3 : Int) : Option (List (TV E)) :=
  bif (decide (v3 < v2)) then (bif (decide ((0 : Int) ≤ v3) && decide (v3 < (v1.length : Int))) then (bif (decide ((0 : Int) ≤ v3) && decide (v3 < (v0.length : Int))) then (bif ((okS n) (⟨(List.getD v1 (Int.toNat v3) (dflt .api_Node)).kind, (List.getD v1 (Int.toNat v3) (dflt .api_Node)).text, (List.getD v1 (Int.toNat v3) (dflt .api_Node)).keys, (List.getD v1 (Int.toNat v3) (dflt .api_Node)).kids⟩ : Node) (⟨(List.getD v0 (Int.toNat v3) (dflt .api_Node)).kind, (List.getD v0 (Int.toNat v3) (dflt .api_Node)).text, (List.getD v0 (Int.toNat v3) (dflt .api_Node)).keys, (List.getD v0 (Int.toNat v3) (dflt .api_Node)).kids⟩ : Node)) then (bif (!((same n) (⟨(List.getD v1 (Int.toNat v3) (dflt .api_Node)).kind, (List.getD v1 (Int.toNat v3) (dflt .api_Node)).text, (List.getD v1 (Int.toNat v3) (dflt .api_Node)).keys, (List.getD v1 (Int.toNat v3) (dflt .api_Node)).kids⟩ : Node) (⟨(List.getD v0 (Int.toNat v3) (dflt .api_Node)).kind, (List.getD v0 (Int.toNat v3) (dflt .api_Node)).text, (List.getD v0 (Int.toNat v3) (dflt .api_Node)).keys, (List.getD v0 (Int.toNat v3) (dflt .api_Node)).kids⟩ : Node))) then some [⟨.bool, false⟩] else G 0 (eqf_C0 v0 v1 v2 (w64 (v3 + (1 : Int))))) else none) else none) else none) else some [⟨.bool, true⟩]
theorem eqf_l0 (n : Nat) (G : Nat → ASt E → Option (List (TV E))) (v0 : List Node) (v1 : List Node) (v2 : Int) (v3 : Int) : runL (eqf_O n) eqf_H G Try.f32 0 (eqf_C0 v0 v1 v2 v3) = eqf_t0 n G v0 v1 v2 v3 := by kernel_rfl
theorem eqf_f : Try.prog.funcs[32]? = some Try.f32 := by kernel_rfl
theorem eqf_n : (Try.f32.name == "runtime.NumGoroutine") = false := by kernel_rfl
theorem eqf_b : Try.f32.body.isNone = false := by kernel_rfl
theorem eqf_ex : ∃ fn, Try.prog.funcs[32]? = some fn ∧ (fn.name == "runtime.NumGoroutine") = false ∧ fn.body.isNone = false := ⟨Try.f32, eqf_f, eqf_n, eqf_b⟩
theorem eqf_hO (n : Nat) (ih : FnOk E nsame_id (nsame_W n)) : OracleOk E (eqf_O n) := orac_ok (.cons ih .nil) .nil .nil .nil
theorem eqf_s0 (n : Nat) (ih : FnOk E nsame_id (nsame_W n)) {res : List (TV E)} {v0 : List Node} {v1 : List Node} {v2 : Int} {v3 : Int} (h : eqf_t0 n (Gr E Try.f32 res) v0 v1 v2 v3 = some res) : Ev E Try.f32 res 0 (eqf_C0 v0 v1 v2 v3) := Ev.step (eqf_hO n ih) mix ((eqf_l0 n _ v0 v1 v2 v3).trans h)
theorem eqf_ok_of (n : Nat) (ih : FnOk E nsame_id (nsame_W n)) (hs2 : ∀ (x0 : List Node) (x1 : List Node) (x2 : Nat), (okE n) x0 x1 x2 = true → x2 = 26) (h : ∀ (x0 : List Node) (x1 : List Node), (okE n) x0 x1 26 = true → eqf_t n (Gr E Try.f32 [⟨.bool, (sameL n) x0 x1 26⟩]) x0 x1 = some [⟨.bool, (sameL n) x0 x1 26⟩]) : FnOk E eqf_id (eqf_W n) := fn3_ok (eqf_hO n ih) mix eqf_f eqf_n eqf_b (fun x0 x1 x2 hk => by obtain rfl := hs2 x0 x1 x2 hk; exact (eqf_e n _ x0 x1).trans (h x0 x1 hk))
theorem eqf_loop (n : Nat) (ih : FnOk E nsame_id (nsame_W n)) (a b : List Node) (ha : a.length ≤ 1000000) (hab : a.length = b.length) (hda : ∀ x ∈ a, dp n x = true) (hdb : ∀ x ∈ b, dp n x = true) : ∀ (m i : Nat), a.length - i = m → i ≤ a.length →
    Ev E Try.f32 [⟨.bool, sameW (same n) (a.drop i) (b.drop i)⟩] 0 (eqf_C0 b a a.length i) := by
  intro m
  induction m with
  | zero =>
    intro i h1 h2
    refine eqf_s0 n ih ?_
    simp only [eqf_t0, dge (show a.length ≤ i by omega), cond_false, List.drop_eq_nil_of_le (show a.length ≤ i by omega), List.drop_eq_nil_of_le (show b.length ≤ i by omega)]
    rfl
  | succ m ih2 =>
    intro i h1 h2
    have hi : i < a.length := by omega
    have hj : i < b.length := by omega
    have hok : okS n a[i] b[i] = true := by simp only [okS, hda _ (List.getElem_mem hi), hdb _ (List.getElem_mem hj), Bool.and_self]
    refine eqf_s0 n ih ?_
    simp only [eqf_t0, dlt hi, dlt hj, d0, gd a _ i hi, gd b _ i hj, Bool.and_self, cond_true, node_eta, hok]
    rw [← List.getElem_cons_drop hi, ← List.getElem_cons_drop hj, w64_id (by omega) (by omega)]
    simp only [sameW]
    cases same n a[i] b[i] with
    | false => rfl
    | true =>
      simp only [Bool.not_true, cond_false, Bool.true_and]
      exact Gr_of (ih2 (i + 1) (by omega) (by omega))
theorem sameW_len {f : Node → Node → Bool} : ∀ {a b : List Node}, a.length ≠ b.length → sameW f a b = false
  | [], [], h => absurd rfl h
  | a :: s, b :: t, h => by
    unfold sameW
    rw [sameW_len (a := s) (b := t) (by simpa using h), Bool.and_false]
  | [], _ :: _, _ => rfl
  | _ :: _, [], _ => rfl
theorem eqf_ok (n : Nat) (ih : FnOk E nsame_id (nsame_W n)) : FnOk E eqf_id (eqf_W n) := eqf_ok_of n ih (fun a b f hk => by
    simp only [okE, Bool.and_eq_true, decide_eq_true_eq] at hk
    exact hk.1) fun a b hk => by
  simp only [okE, Bool.and_eq_true, decide_eq_true_eq, List.all_eq_true] at hk
  simp only [eqf_t, sameL]
  by_cases h : a.length = b.length
  · rw [neF (by omega), cond_false]
    have := eqf_loop n ih a b hk.2.1 h hk.2.2.1 hk.2.2.2 a.length 0 (by omega) (by omega)
    rw [List.drop_zero, List.drop_zero] at this
    exact Gr_of this
  · rw [neT (by omega), cond_true, sameW_len h]
noncomputable def nsame_O (n : Nat) : Oracle E := orac [(32, eqf_W n), (31, equal_W)] [] [] []
noncomputable def nsame_H : Hint E := Hint.mk [] [] []
noncomputable def nsame_t (n : Nat) (_G : Nat → ASt E → Option (List (TV E))) (x0 : Node) (x1 : Node) : Option (List (TV E)) :=
  bif (((fun a _ => ln6 a) x0.keys x1.keys) || !(bif (x0.kind == x1.kind) then (x0.text == x1.text) else false)) then (bif (((okE n) x0.kids x1.kids 26) || !(bif (bif (x0.kind == x1.kind) then (x0.text == x1.text) else false) then (equal x0.keys x1.keys) else false)) then some [⟨.bool, (bif (bif (bif (x0.kind == x1.kind) then (x0.text == x1.text) else false) then (equal x0.keys x1.keys) else false) then ((sameL n) x0.kids x1.kids 26) else false)⟩] else none) else none
theorem nsame_e (n : Nat) (G : Nat → ASt E → Option (List (TV E))) (x0 : Node) (x1 : Node) : runE (nsame_O n) nsame_H G Try.f26 [⟨.api_Node, x0⟩, ⟨.api_Node, x1⟩] = nsame_t n G x0 x1 := by kernel_rfl
theorem nsame_f : Try.prog.funcs[26]? = some Try.f26 := by kernel_rfl
theorem nsame_n : (Try.f26.name == "runtime.NumGoroutine") = false := by kernel_rfl
theorem nsame_b : Try.f26.body.isNone = false := by kernel_rfl
theorem nsame_ex : ∃ fn, Try.prog.funcs[26]? = some fn ∧ (fn.name == "runtime.NumGoroutine") = false ∧ fn.body.isNone = false := ⟨Try.f26, nsame_f, nsame_n, nsame_b⟩
theorem nsame_hO (n : Nat) (ih : FnOk E nsame_id (nsame_W n)) : OracleOk E (nsame_O n) := orac_ok (.cons (eqf_ok n ih) (.cons equal_ok .nil)) .nil .nil .nil
theorem nsame_ok_of (n : Nat) (ih : FnOk E nsame_id (nsame_W n)) (h : ∀ (x0 : Node) (x1 : Node), (okS (n + 1)) x0 x1 = true → nsame_t n (Gr E Try.f26 [⟨.bool, (same (n + 1)) x0 x1⟩]) x0 x1 = some [⟨.bool, (same (n + 1)) x0 x1⟩]) : FnOk E nsame_id (nsame_W (n + 1)) := fn2_ok (nsame_hO n ih) mix nsame_f nsame_n nsame_b (fun x0 x1 hk => (nsame_e n _ x0 x1).trans (h x0 x1 hk))
theorem nsame_step (n : Nat) (ih : FnOk E nsame_id (nsame_W n)) : FnOk E nsame_id (nsame_W (n + 1)) := nsame_ok_of n ih fun a b hk => by
  simp only [okS, Bool.and_eq_true] at hk
  obtain ⟨ha, ha2⟩ := dp_iff.1 hk.1
  obtain ⟨hb, hb2⟩ := dp_iff.1 hk.2
  have hl : ln6 a.keys = true := ln6_iff.2 ha.1
  have hE : okE n a.kids b.kids 26 = true := by
    simp only [okE, Bool.and_eq_true, decide_eq_true_eq, List.all_eq_true]
    exact ⟨trivial, ha.2, ha2, hb2⟩
  simp only [nsame_t, hl, hE, Bool.true_or, cond_true, same, sameL, equal]
  cases a.kind == b.kind <;> cases a.text == b.text <;> cases a.keys == b.keys <;> rfl
theorem nsame_ok (n : Nat) : FnOk E nsame_id (nsame_W n) := by
  induction n with
  | zero => exact fn2_bot nsame_ex fun x y => rfl
  | succ n ih => exact nsame_step n ih
/-! ### Package blend -/
/-- Nodes of depth at most n: rows of at most B, texts of at most 200 bytes, maps whose rows fit. -/
def wf (B : Nat) : Nat → Node → Bool
  | 0, _ => false
  | n + 1, x => decide (x.keys.length ≤ B) && decide (x.kids.length ≤ B) && (x.kind != 3 || decide (x.keys.length = x.kids.length)) && decide (x.text.length ≤ 200) && x.keys.all (fun k => decide (k.length ≤ 200)) && x.kids.all (wf B n)
theorem wf_iff {B n : Nat} {x : Node} : wf B (n + 1) x = true ↔ x.keys.length ≤ B ∧ x.kids.length ≤ B ∧ (x.kind = 3 → x.keys.length = x.kids.length) ∧ x.text.length ≤ 200 ∧ (∀ k ∈ x.keys, k.length ≤ 200) ∧ ∀ y ∈ x.kids, wf B n y = true := by
  simp only [wf, Bool.and_eq_true, Bool.or_eq_true, decide_eq_true_eq, bne_iff_ne, List.all_eq_true]
  constructor
  · rintro ⟨⟨⟨⟨⟨h1, h2⟩, h3⟩, h4⟩, h5⟩, h6⟩
    exact ⟨h1, h2, fun e => h3.resolve_left (fun h => h e), h4, h5, h6⟩
  · rintro ⟨h1, h2, h3, h4, h5, h6⟩
    refine ⟨⟨⟨⟨⟨h1, h2⟩, ?_⟩, h4⟩, h5⟩, h6⟩
    by_cases e : x.kind = 3
    · exact .inr (h3 e)
    · exact .inl e
theorem wf_fit {B n : Nat} {x : Node} (h : wf B (n + 1) x = true) (hB : B ≤ 1000) : fit x = true := by
  have := wf_iff.1 h
  exact fit_iff.2 ⟨⟨by omega, by omega⟩, this.2.2.1⟩
theorem wf_dp {B : Nat} (hB : B ≤ 1000) : ∀ {n : Nat} {x : Node}, wf B n x = true → dp n x = true
  | 0, _, h => by cases h
  | n + 1, x, h => by
    have := wf_iff.1 h
    exact dp_iff.2 ⟨⟨by omega, by omega⟩, fun y hy => wf_dp hB (this.2.2.2.2.2 y hy)⟩
theorem dp_mono : ∀ {n : Nat} {x : Node} (k : Nat), dp n x = true → dp (n + k) x = true
  | 0, _, _, h => by cases h
  | n + 1, x, k, h => by
    have := dp_iff.1 h
    rw [Nat.add_right_comm]
    exact dp_iff.2 ⟨this.1, fun y hy => dp_mono k (this.2 y hy)⟩
theorem wf_dp12 {B n : Nat} {x : Node} (hB : B ≤ 1000) (hn : n ≤ 12) (h : wf B n x = true) : dp 12 x = true := by
  have := dp_mono (12 - n) (wf_dp hB h)
  rwa [show n + (12 - n) = 12 from by omega] at this
theorem lk_mem : ∀ {keys : List (List UInt8)} {kids : List Node} {k : List UInt8} {x : Node}, lk keys kids k = some x → x ∈ kids
  | a :: t, v :: w, k, x, h => by
    unfold lk at h
    split at h
    · cases h; exact List.mem_cons_self
    · exact List.mem_cons_of_mem _ (lk_mem h)
  | [], _, _, _, h => by cases h
  | _ :: _, [], _, _, h => by cases h
theorem lk_some : ∀ {keys : List (List UInt8)} {kids : List Node} {k : List UInt8}, keys.length = kids.length → k ∈ keys → ∃ x, lk keys kids k = some x
  | a :: t, v :: w, k, hl, h => by
    unfold lk
    by_cases e : k = a
    · exact ⟨v, if_pos e⟩
    · rw [if_neg e]
      exact lk_some (by simpa using hl) ((List.mem_cons.1 h).resolve_left e)
  | [], _, _, _, h => by cases h
  | _ :: _, [], _, hl, _ => by simp at hl
theorem getV_mem {a : Node} {k : List UInt8} (h : getB a k = true) : getV a k ∈ a.kids := by
  unfold getB at h
  unfold getV
  cases hg : get a k with
  | none => rw [hg] at h; cases h
  | some x =>
    unfold get at hg
    split at hg
    · exact lk_mem hg
    · cases hg
theorem getB_of {B n : Nat} {a : Node} {k : List UInt8} (ha : wf B (n + 1) a = true) (h3 : a.kind = 3) (hk : k ∈ a.keys) : getB a k = true := by
  obtain ⟨x, hx⟩ := lk_some ((wf_iff.1 ha).2.2.1 h3) hk
  unfold getB get
  rw [if_pos h3, hx]
  rfl
theorem wf_get {B n : Nat} {a : Node} {k : List UInt8} (ha : wf B (n + 1) a = true) (h : getB a k = true) : wf B n (getV a k) = true := (wf_iff.1 ha).2.2.2.2.2 _ (getV_mem h)
def pairsV (a b : Node) : Bool := a.kind == 3 && b.kind == 3
theorem pairsV_iff {a b : Node} : pairsV a b = true ↔ a.kind = 3 ∧ b.kind = 3 := by simp [pairsV]
noncomputable def pairs_W : FnW E := fn2 (E := E) .api_Node .api_Node .bool (fun _ _ => true) pairsV
def pairs_id : FuncId := 16
noncomputable def pairs_O : Oracle E := orac [] [] [] []
noncomputable def pairs_H : Hint E := Hint.mk [] [] []
noncomputable def pairs_t (_G : Nat → ASt E → Option (List (TV E))) (x0 : Node) (x1 : Node) : Option (List (TV E)) :=
  some [⟨.bool, (bif (x0.kind == (3 : Int)) then (x1.kind == (3 : Int)) else false)⟩]
theorem pairs_e (G : Nat → ASt E → Option (List (TV E))) (x0 : Node) (x1 : Node) : runE pairs_O pairs_H G Try.f16 [⟨.api_Node, x0⟩, ⟨.api_Node, x1⟩] = pairs_t G x0 x1 := by kernel_rfl
theorem pairs_f : Try.prog.funcs[16]? = some Try.f16 := by kernel_rfl
theorem pairs_n : (Try.f16.name == "runtime.NumGoroutine") = false := by kernel_rfl
theorem pairs_b : Try.f16.body.isNone = false := by kernel_rfl
theorem pairs_ex : ∃ fn, Try.prog.funcs[16]? = some fn ∧ (fn.name == "runtime.NumGoroutine") = false ∧ fn.body.isNone = false := ⟨Try.f16, pairs_f, pairs_n, pairs_b⟩
theorem pairs_hO : OracleOk E pairs_O := orac_ok .nil .nil .nil .nil
theorem pairs_ok_of (h : ∀ (x0 : Node) (x1 : Node), pairs_t (Gr E Try.f16 [⟨.bool, pairsV x0 x1⟩]) x0 x1 = some [⟨.bool, pairsV x0 x1⟩]) : FnOk E pairs_id pairs_W := fn2_ok pairs_hO mix pairs_f pairs_n pairs_b (fun x0 x1 _ => (pairs_e _ x0 x1).trans (h x0 x1))
theorem pairs_ok : FnOk E pairs_id pairs_W := pairs_ok_of fun a b => by
  simp only [pairs_t, pairsV]
  cases a.kind == 3 <;> rfl
def ext : List UInt8 := [101, 120, 116, 101, 110, 100, 115]
def pick (f : Node → Node → Node) (a b : Node) (k : List UInt8) : Node := bif getB b k then (bif getB a k && !(k == ext) then f (getV a k) (getV b k) else getV b k) else getV a k
def twoV : Nat → Node → Node → Node
  | 0, _, b => b
  | n + 1, a, b => bif pairsV a b then ⟨3, [], both a.keys b.keys, (both a.keys b.keys).map (pick (twoV n) a b)⟩ else b
def okT (n : Nat) (a b : Node) : Bool := wf 200 n a && wf 200 n b
theorem both_len (a b : List (List UInt8)) : (both a b).length ≤ a.length + b.length := by
  have := Pl.sortD_len (a ++ b)
  rw [List.length_append] at this
  exact this
noncomputable def two_W (n : Nat) : FnW E := fn2 (E := E) .api_Node .api_Node .api_Node (okT n) (twoV n)
def two_id : FuncId := 7
noncomputable def two_O (n : Nat) : Oracle E := orac [(7, two_W n), (16, pairs_W), (17, nboth_W), (18, nget_W)] [] [] []
noncomputable def two_H : Hint E := Hint.mk [(0, [2, 3, 4, 5, 22, 23, 24])] [] [(0, [(5, some 2, true, .str), (5, some 3, true, .api_Node)])]
noncomputable def two_C0 (v0 : List (List UInt8)) (v1 : Int) (v2 : Int) (v3 : Int) (v4 : List UInt8) (v5 : List (List UInt8)) (v6 : List Node) (v7 : Int) (v8 : List UInt8) (v9 : List (List UInt8)) (v10 : List Node) (v11 : Int) (v12 : List UInt8) (v13 : Int) (v14 : List UInt8) (v15 : List (List UInt8)) (v16 : List Node) : ASt E := ASt.mk 67 [(2, .ptr 0 0), (3, .ptr 1 0), (4, .ptr 2 0), (5, .ptr 3 0), (22, .d (.slice .str v0)), (23, .d (.int .i64 v1)), (24, .d (.int .i64 v2))] [(0, .box [.d (.int .i64 v3), .d (.str v4), .d (.slice .str v5), .d (.slice .api_Node v6)]), (1, .box [.d (.int .i64 v7), .d (.str v8), .d (.slice .str v9), .d (.slice .api_Node v10)]), (2, .box [.d (.int .i64 v11), .d (.str v12), .d (.raw (.slice none 0 0)), .d (.raw (.slice none 0 0))]), (3, .box [.d (.int .i64 v13), .d (.str v14), .grow .str v15 4, .grow .api_Node v16 5]), (4, .tail true), (5, .tail true)] 6
noncomputable def two_t (_n : Nat) (G : Nat → ASt E → Option (List (TV E))) (x0 : Node) (x1 : Node) : Option (List (TV E)) :=
  bif (!(pairsV (⟨x0.kind, x0.text, x0.keys, x0.kids⟩ : Node) (⟨x1.kind, x1.text, x1.keys, x1.kids⟩ : Node))) then some [⟨.api_Node, (⟨x1.kind, x1.text, x1.keys, x1.kids⟩ : Node)⟩] else (bif (ln5 x0.keys x1.keys) then G 0 (two_C0 (both x0.keys x1.keys) ((both x0.keys x1.keys).length : Int) (0 : Int) x0.kind x0.text x0.keys x0.kids x1.kind x1.text x1.keys x1.kids (0 : Int) ([] : List UInt8) (3 : Int) ([] : List UInt8) ([] : List (List UInt8)) ([] : List Node)) else none)
theorem two_e (n : Nat) (G : Nat → ASt E → Option (List (TV E))) (x0 : Node) (x1 : Node) : runE (two_O n) two_H G Try.f7 [⟨.api_Node, x0⟩, ⟨.api_Node, x1⟩] = two_t n G x0 x1 := by kernel_rfl
noncomputable def two_t0 (n : Nat) (G : Nat → ASt E → Option (List (TV E))) (v0 : List (List UInt8)) (v1 : Int) (v2 : Int) (v3 : Int) (v4 : List UInt8) (v5 : List (List UInt8)) (v6 : List Node) (v7 : Int) (v8 : List UInt8) (v9 : List (List UInt8)) (v10 : List Node) (v11 : Int) (v12 : List UInt8) (v13 : Int) (v14 : List UInt8) (v15 : List (List UInt8)) (v16 : List Node) : Option (List (TV E)) :=
  bif (decide (v2 < v1)) then (bif (decide ((0 : Int) ≤ v2) && decide (v2 < (v0.length : Int))) then (bif ((fun n _ => fit n) (⟨v3, v4, v5, v6⟩ : Node) (List.getD v0 (Int.toNat v2) (dflt .str))) then (bif ((fun n _ => fit n) (⟨v7, v8, v9, v10⟩ : Node) (List.getD v0 (Int.toNat v2) (dflt .str))) then (bif (!(getB (⟨v7, v8, v9, v10⟩ : Node) (List.getD v0 (Int.toNat v2) (dflt .str)))) then (bif (decide ((v15.length + ([(List.getD v0 (Int.toNat v2) (dflt .str))] : List (List UInt8)).length) * 16 ≤ maxBytes)) then (bif (decide ((v16.length + ([(⟨(getV (⟨v3, v4, v5, v6⟩ : Node) (List.getD v0 (Int.toNat v2) (dflt .str))).kind, (getV (⟨v3, v4, v5, v6⟩ : Node) (List.getD v0 (Int.toNat v2) (dflt .str))).text, (getV (⟨v3, v4, v5, v6⟩ : Node) (List.getD v0 (Int.toNat v2) (dflt .str))).keys, (getV (⟨v3, v4, v5, v6⟩ : Node) (List.getD v0 (Int.toNat v2) (dflt .str))).kids⟩ : Node)] : List Node).length) * 72 ≤ maxBytes)) then G 0 (two_C0 v0 v1 (w64 (v2 + (1 : Int))) v3 v4 v5 v6 v7 v8 v9 v10 v11 v12 v13 v14 (v15 ++ ([(List.getD v0 (Int.toNat v2) (dflt .str))] : List (List UInt8))) (v16 ++ ([(⟨(getV (⟨v3, v4, v5, v6⟩ : Node) (List.getD v0 (Int.toNat v2) (dflt .str))).kind, (getV (⟨v3, v4, v5, v6⟩ : Node) (List.getD v0 (Int.toNat v2) (dflt .str))).text, (getV (⟨v3, v4, v5, v6⟩ : Node) (List.getD v0 (Int.toNat v2) (dflt .str))).keys, (getV (⟨v3, v4, v5, v6⟩ : Node) (List.getD v0 (Int.toNat v2) (dflt .str))).kids⟩ : Node)] : List Node))) else none) else none) else (bif (bif (getB (⟨v3, v4, v5, v6⟩ : Node) (List.getD v0 (Int.toNat v2) (dflt .str))) then (!((List.getD v0 (Int.toNat v2) (dflt .str)) == ([101, 120, 116, 101, 110, 100, 115] : List UInt8))) else false) then (bif ((okT n) (⟨(getV (⟨v3, v4, v5, v6⟩ : Node) (List.getD v0 (Int.toNat v2) (dflt .str))).kind, (getV (⟨v3, v4, v5, v6⟩ : Node) (List.getD v0 (Int.toNat v2) (dflt .str))).text, (getV (⟨v3, v4, v5, v6⟩ : Node) (List.getD v0 (Int.toNat v2) (dflt .str))).keys, (getV (⟨v3, v4, v5, v6⟩ : Node) (List.getD v0 (Int.toNat v2) (dflt .str))).kids⟩ : Node) (⟨(getV (⟨v7, v8, v9, v10⟩ : Node) (List.getD v0 (Int.toNat v2) (dflt .str))).kind, (getV (⟨v7, v8, v9, v10⟩ : Node) (List.getD v0 (Int.toNat v2) (dflt .str))).text, (getV (⟨v7, v8, v9, v10⟩ : Node) (List.getD v0 (Int.toNat v2) (dflt .str))).keys, (getV (⟨v7, v8, v9, v10⟩ : Node) (List.getD v0 (Int.toNat v2) (dflt .str))).kids⟩ : Node)) then (bif (decide ((v15.length + ([(List.getD v0 (Int.toNat v2) (dflt .str))] : List (List UInt8)).length) * 16 ≤ maxBytes)) then (bif (decide ((v16.length + ([(⟨((twoV n) (⟨(getV (⟨v3, v4, v5, v6⟩ : Node) (List.getD v0 (Int.toNat v2) (dflt .str))).kind, (getV (⟨v3, v4, v5, v6⟩ : Node) (List.getD v0 (Int.toNat v2) (dflt .str))).text, (getV (⟨v3, v4, v5, v6⟩ : Node) (List.getD v0 (Int.toNat v2) (dflt .str))).keys, (getV (⟨v3, v4, v5, v6⟩ : Node) (List.getD v0 (Int.toNat v2) (dflt .str))).kids⟩ : Node) (⟨(getV (⟨v7, v8, v9, v10⟩ : Node) (List.getD v0 (Int.toNat v2) (dflt .str))).kind, (getV (⟨v7, v8, v9, v10⟩ : Node) (List.getD v0 (Int.toNat v2) (dflt .str))).text, (getV (⟨v7, v8, v9, v10⟩ : Node) (List.getD v0 (Int.toNat v2) (dflt .str))).keys, (getV (⟨v7, v8, v9, v10⟩ : Node) (List.getD v0 (Int.toNat v2) (dflt .str))).kids⟩ : Node)).kind, ((twoV n) (⟨(getV (⟨v3, v4, v5, v6⟩ : Node) (List.getD v0 (Int.toNat v2) (dflt .str))).kind, (getV (⟨v3, v4, v5, v6⟩ : Node) (List.getD v0 (Int.toNat v2) (dflt .str))).text, (getV (⟨v3, v4, v5, v6⟩ : Node) (List.getD v0 (Int.toNat v2) (dflt .str))).keys, (getV (⟨v3, v4, v5, v6⟩ : Node) (List.getD v0 (Int.toNat v2) (dflt .str))).kids⟩ : Node) (⟨(getV (⟨v7, v8, v9, v10⟩ : Node) (List.getD v0 (Int.toNat v2) (dflt .str))).kind, (getV (⟨v7, v8, v9, v10⟩ : Node) (List.getD v0 (Int.toNat v2) (dflt .str))).text, (getV (⟨v7, v8, v9, v10⟩ : Node) (List.getD v0 (Int.toNat v2) (dflt .str))).keys, (getV (⟨v7, v8, v9, v10⟩ : Node) (List.getD v0 (Int.toNat v2) (dflt .str))).kids⟩ : Node)).text, ((twoV n) (⟨(getV (⟨v3, v4, v5, v6⟩ : Node) (List.getD v0 (Int.toNat v2) (dflt .str))).kind, (getV (⟨v3, v4, v5, v6⟩ : Node) (List.getD v0 (Int.toNat v2) (dflt .str))).text, (getV (⟨v3, v4, v5, v6⟩ : Node) (List.getD v0 (Int.toNat v2) (dflt .str))).keys, (getV (⟨v3, v4, v5, v6⟩ : Node) (List.getD v0 (Int.toNat v2) (dflt .str))).kids⟩ : Node) (⟨(getV (⟨v7, v8, v9, v10⟩ : Node) (List.getD v0 (Int.toNat v2) (dflt .str))).kind, (getV (⟨v7, v8, v9, v10⟩ : Node) (List.getD v0 (Int.toNat v2) (dflt .str))).text, (getV (⟨v7, v8, v9, v10⟩ : Node) (List.getD v0 (Int.toNat v2) (dflt .str))).keys, (getV (⟨v7, v8, v9, v10⟩ : Node) (List.getD v0 (Int.toNat v2) (dflt .str))).kids⟩ : Node)).keys, ((twoV n) (⟨(getV (⟨v3, v4, v5, v6⟩ : Node) (List.getD v0 (Int.toNat v2) (dflt .str))).kind, (getV (⟨v3, v4, v5, v6⟩ : Node) (List.getD v0 (Int.toNat v2) (dflt .str))).text, (getV (⟨v3, v4, v5, v6⟩ : Node) (List.getD v0 (Int.toNat v2) (dflt .str))).keys, (getV (⟨v3, v4, v5, v6⟩ : Node) (List.getD v0 (Int.toNat v2) (dflt .str))).kids⟩ : Node) (⟨(getV (⟨v7, v8, v9, v10⟩ : Node) (List.getD v0 (Int.toNat v2) (dflt .str))).kind, (getV (⟨v7, v8, v9, v10⟩ : Node) (List.getD v0 (Int.toNat v2) (dflt .str))).text, (getV (⟨v7, v8, v9, v10⟩ : Node) (List.getD v0 (Int.toNat v2) (dflt .str))).keys, (getV (⟨v7, v8, v9, v10⟩ : Node) (List.getD v0 (Int.toNat v2) (dflt .str))).kids⟩ : Node)).kids⟩ : Node)] : List Node).length) * 72 ≤ maxBytes)) then G 0 (two_C0 v0 v1 (w64 (v2 + (1 : Int))) v3 v4 v5 v6 v7 v8 v9 v10 v11 v12 v13 v14 (v15 ++ ([(List.getD v0 (Int.toNat v2) (dflt .str))] : List (List UInt8))) (v16 ++ ([(⟨((twoV n) (⟨(getV (⟨v3, v4, v5, v6⟩ : Node) (List.getD v0 (Int.toNat v2) (dflt .str))).kind, (getV (⟨v3, v4, v5, v6⟩ : Node) (List.getD v0 (Int.toNat v2) (dflt .str))).text, (getV (⟨v3, v4, v5, v6⟩ : Node) (List.getD v0 (Int.toNat v2) (dflt .str))).keys, (getV (⟨v3, v4, v5, v6⟩ : Node) (List.getD v0 (Int.toNat v2) (dflt .str))).kids⟩ : Node) (⟨(getV (⟨v7, v8, v9, v10⟩ : Node) (List.getD v0 (Int.toNat v2) (dflt .str))).kind, (getV (⟨v7, v8, v9, v10⟩ : Node) (List.getD v0 (Int.toNat v2) (dflt .str))).text, (getV (⟨v7, v8, v9, v10⟩ : Node) (List.getD v0 (Int.toNat v2) (dflt .str))).keys, (getV (⟨v7, v8, v9, v10⟩ : Node) (List.getD v0 (Int.toNat v2) (dflt .str))).kids⟩ : Node)).kind, ((twoV n) (⟨(getV (⟨v3, v4, v5, v6⟩ : Node) (List.getD v0 (Int.toNat v2) (dflt .str))).kind, (getV (⟨v3, v4, v5, v6⟩ : Node) (List.getD v0 (Int.toNat v2) (dflt .str))).text, (getV (⟨v3, v4, v5, v6⟩ : Node) (List.getD v0 (Int.toNat v2) (dflt .str))).keys, (getV (⟨v3, v4, v5, v6⟩ : Node) (List.getD v0 (Int.toNat v2) (dflt .str))).kids⟩ : Node) (⟨(getV (⟨v7, v8, v9, v10⟩ : Node) (List.getD v0 (Int.toNat v2) (dflt .str))).kind, (getV (⟨v7, v8, v9, v10⟩ : Node) (List.getD v0 (Int.toNat v2) (dflt .str))).text, (getV (⟨v7, v8, v9, v10⟩ : Node) (List.getD v0 (Int.toNat v2) (dflt .str))).keys, (getV (⟨v7, v8, v9, v10⟩ : Node) (List.getD v0 (Int.toNat v2) (dflt .str))).kids⟩ : Node)).text, ((twoV n) (⟨(getV (⟨v3, v4, v5, v6⟩ : Node) (List.getD v0 (Int.toNat v2) (dflt .str))).kind, (getV (⟨v3, v4, v5, v6⟩ : Node) (List.getD v0 (Int.toNat v2) (dflt .str))).text, (getV (⟨v3, v4, v5, v6⟩ : Node) (List.getD v0 (Int.toNat v2) (dflt .str))).keys, (getV (⟨v3, v4, v5, v6⟩ : Node) (List.getD v0 (Int.toNat v2) (dflt .str))).kids⟩ : Node) (⟨(getV (⟨v7, v8, v9, v10⟩ : Node) (List.getD v0 (Int.toNat v2) (dflt .str))).kind, (getV (⟨v7, v8, v9, v10⟩ : Node) (List.getD v0 (Int.toNat v2) (dflt .str))).text, (getV (⟨v7, v8, v9, v10⟩ : Node) (List.getD v0 (Int.toNat v2) (dflt .str))).keys, (getV (⟨v7, v8, v9, v10⟩ : Node) (List.getD v0 (Int.toNat v2) (dflt .str))).kids⟩ : Node)).keys, ((twoV n) (⟨(getV (⟨v3, v4, v5, v6⟩ : Node) (List.getD v0 (Int.toNat v2) (dflt .str))).kind, (getV (⟨v3, v4, v5, v6⟩ : Node) (List.getD v0 (Int.toNat v2) (dflt .str))).text, (getV (⟨v3, v4, v5, v6⟩ : Node) (List.getD v0 (Int.toNat v2) (dflt .str))).keys, (getV (⟨v3, v4, v5, v6⟩ : Node) (List.getD v0 (Int.toNat v2) (dflt .str))).kids⟩ : Node) (⟨(getV (⟨v7, v8, v9, v10⟩ : Node) (List.getD v0 (Int.toNat v2) (dflt .str))).kind, (getV (⟨v7, v8, v9, v10⟩ : Node) (List.getD v0 (Int.toNat v2) (dflt .str))).text, (getV (⟨v7, v8, v9, v10⟩ : Node) (List.getD v0 (Int.toNat v2) (dflt .str))).keys, (getV (⟨v7, v8, v9, v10⟩ : Node) (List.getD v0 (Int.toNat v2) (dflt .str))).kids⟩ : Node)).kids⟩ : Node)] : List Node))) else none) else none) else none) else (bif (decide ((v15.length + ([(List.getD v0 (Int.toNat v2) (dflt .str))] : List (List UInt8)).length) * 16 ≤ maxBytes)) then (bif (decide ((v16.length + ([(⟨(getV (⟨v7, v8, v9, v10⟩ : Node) (List.getD v0 (Int.toNat v2) (dflt .str))).kind, (getV (⟨v7, v8, v9, v10⟩ : Node) (List.getD v0 (Int.toNat v2) (dflt .str))).text, (getV (⟨v7, v8, v9, v10⟩ : Node) (List.getD v0 (Int.toNat v2) (dflt .str))).keys, (getV (⟨v7, v8, v9, v10⟩ : Node) (List.getD v0 (Int.toNat v2) (dflt .str))).kids⟩ : Node)] : List Node).length) * 72 ≤ maxBytes)) then G 0 (two_C0 v0 v1 (w64 (v2 + (1 : Int))) v3 v4 v5 v6 v7 v8 v9 v10 v11 v12 v13 v14 (v15 ++ ([(List.getD v0 (Int.toNat v2) (dflt .str))] : List (List UInt8))) (v16 ++ ([(⟨(getV (⟨v7, v8, v9, v10⟩ : Node) (List.getD v0 (Int.toNat v2) (dflt .str))).kind, (getV (⟨v7, v8, v9, v10⟩ : Node) (List.getD v0 (Int.toNat v2) (dflt .str))).text, (getV (⟨v7, v8, v9, v10⟩ : Node) (List.getD v0 (Int.toNat v2) (dflt .str))).keys, (getV (⟨v7, v8, v9, v10⟩ : Node) (List.getD v0 (Int.toNat v2) (dflt .str))).kids⟩ : Node)] : List Node))) else none) else none))) else none) else none) else none) else some [⟨.api_Node, (⟨v13, v14, v15, v16⟩ : Node)⟩]
theorem two_l0 (n : Nat) (G : Nat → ASt E → Option (List (TV E))) (v0 : List (List UInt8)) (v1 : Int) (v2 : Int) (v3 : Int) (v4 : List UInt8) (v5 : List (List UInt8)) (v6 : List Node) (v7 : Int) (v8 : List UInt8) (v9 : List (List UInt8)) (v10 : List Node) (v11 : Int) (v12 : List UInt8) (v13 : Int) (v14 : List UInt8) (v15 : List (List UInt8)) (v16 : List Node) : runL (two_O n) two_H G Try.f7 0 (two_C0 v0 v1 v2 v3 v4 v5 v6 v7 v8 v9 v10 v11 v12 v13 v14 v15 v16) = two_t0 n G v0 v1 v2 v3 v4 v5 v6 v7 v8 v9 v10 v11 v12 v13 v14 v15 v16 := by kernel_rfl
theorem two_f : Try.prog.funcs[7]? = some Try.f7 := by kernel_rfl
theorem two_n : (Try.f7.name == "runtime.NumGoroutine") = false := by kernel_rfl
theorem two_b : Try.f7.body.isNone = false := by kernel_rfl
theorem two_ex : ∃ fn, Try.prog.funcs[7]? = some fn ∧ (fn.name == "runtime.NumGoroutine") = false ∧ fn.body.isNone = false := ⟨Try.f7, two_f, two_n, two_b⟩
theorem two_hO (n : Nat) (ih : FnOk E two_id (two_W n)) : OracleOk E (two_O n) := orac_ok (.cons ih (.cons pairs_ok (.cons nboth_ok (.cons nget_ok .nil)))) .nil .nil .nil
theorem two_s0 (n : Nat) (ih : FnOk E two_id (two_W n)) {res : List (TV E)} {v0 : List (List UInt8)} {v1 : Int} {v2 : Int} {v3 : Int} {v4 : List UInt8} {v5 : List (List UInt8)} {v6 : List Node} {v7 : Int} {v8 : List UInt8} {v9 : List (List UInt8)} {v10 : List Node} {v11 : Int} {v12 : List UInt8} {v13 : Int} {v14 : List UInt8} {v15 : List (List UInt8)} {v16 : List Node} (h : two_t0 n (Gr E Try.f7 res) v0 v1 v2 v3 v4 v5 v6 v7 v8 v9 v10 v11 v12 v13 v14 v15 v16 = some res) : Ev E Try.f7 res 0 (two_C0 v0 v1 v2 v3 v4 v5 v6 v7 v8 v9 v10 v11 v12 v13 v14 v15 v16) := Ev.step (two_hO n ih) mix ((two_l0 n _ v0 v1 v2 v3 v4 v5 v6 v7 v8 v9 v10 v11 v12 v13 v14 v15 v16).trans h)
theorem two_ok_of (n : Nat) (ih : FnOk E two_id (two_W n)) (h : ∀ (x0 : Node) (x1 : Node), (okT (n + 1)) x0 x1 = true → two_t n (Gr E Try.f7 [⟨.api_Node, (twoV (n + 1)) x0 x1⟩]) x0 x1 = some [⟨.api_Node, (twoV (n + 1)) x0 x1⟩]) : FnOk E two_id (two_W (n + 1)) := fn2_ok (two_hO n ih) mix two_f two_n two_b (fun x0 x1 hk => (two_e n _ x0 x1).trans (h x0 x1 hk))
theorem two_loop (n : Nat) (ih : FnOk E two_id (two_W n)) (a b : Node) (ha : wf 200 (n + 1) a = true) (hb : wf 200 (n + 1) b = true) (ks : List (List UInt8)) (hks : ks.length ≤ 400) (u0 : Int) (u1 : List UInt8) :
    ∀ (m i : Nat) (ok : List (List UInt8)) (ov : List Node), ks.length - i = m → i ≤ ks.length → ok.length = i → ov.length = i →
      Ev E Try.f7 [⟨.api_Node, (⟨3, [], ok ++ ks.drop i, ov ++ (ks.drop i).map (pick (twoV n) a b)⟩ : Node)⟩] 0 (two_C0 ks ks.length i a.kind a.text a.keys a.kids b.kind b.text b.keys b.kids u0 u1 3 [] ok ov) := by
  have fa := wf_fit ha (by decide)
  have fb := wf_fit hb (by decide)
  intro m
  induction m with
  | zero =>
    intro i ok ov h1 h2 h3 h4
    refine two_s0 n ih ?_
    simp only [two_t0, dge (show ks.length ≤ i by omega), cond_false, List.drop_eq_nil_of_le (show ks.length ≤ i by omega), List.append_nil, List.map_nil]
  | succ m ih2 =>
    intro i ok ov h1 h2 h3 h4
    have hi : i < ks.length := by omega
    have e1 : decide ((ok.length + [ks[i]].length) * 16 ≤ maxBytes) = true := dT (by rw [mb, List.length_singleton]; omega)
    have e2 : ∀ v : Node, decide ((ov.length + [v].length) * 72 ≤ maxBytes) = true := fun v => dT (by rw [mb, List.length_singleton]; omega)
    have e3 : w64 ((i : Int) + 1) = ((i + 1 : Nat) : Int) := by rw [w64_id (by omega) (by omega)]; omega
    refine two_s0 n ih ?_
    simp only [two_t0, dlt hi, d0, gd ks _ i hi, Bool.and_self, cond_true, node_eta, fa, fb, e1, e2, e3]
    rw [← List.getElem_cons_drop hi]
    have fin : ∀ v, v = pick (twoV n) a b ks[i] → Gr E Try.f7 [⟨.api_Node, (⟨3, [], ok ++ ks[i] :: ks.drop (i + 1), ov ++ (ks[i] :: ks.drop (i + 1)).map (pick (twoV n) a b)⟩ : Node)⟩] 0 (two_C0 ks ks.length ((i + 1 : Nat) : Int) a.kind a.text a.keys a.kids b.kind b.text b.keys b.kids u0 u1 3 [] (ok ++ [ks[i]]) (ov ++ [v])) = some [⟨.api_Node, (⟨3, [], ok ++ ks[i] :: ks.drop (i + 1), ov ++ (ks[i] :: ks.drop (i + 1)).map (pick (twoV n) a b)⟩ : Node)⟩] := by
      rintro v rfl
      have := Gr_of (ih2 (i + 1) (ok ++ [ks[i]]) (ov ++ [pick (twoV n) a b ks[i]]) (by omega) (by omega) (by simp [h3]) (by simp [h4]))
      rw [List.append_assoc, List.append_assoc] at this
      exact this
    generalize ks[i] = k at *
    cases gb : getB b k with
    | false =>
      simp only [Bool.not_false, cond_true]
      exact fin _ (by simp only [pick, gb, cond_false])
    | true =>
      cases ga : getB a k with
      | false =>
        simp only [Bool.not_true, cond_false]
        exact fin _ (by simp only [pick, gb, ga, cond_true, Bool.false_and, cond_false])
      | true =>
        cases hk : k == ext with
        | true =>
          have hk' : (k == ([101, 120, 116, 101, 110, 100, 115] : List UInt8)) = true := hk
          simp only [hk', Bool.not_true, cond_true, cond_false]
          exact fin _ (by simp only [pick, gb, ga, hk, cond_true, Bool.not_true, Bool.and_false, cond_false])
        | false =>
          have hk' : (k == ([101, 120, 116, 101, 110, 100, 115] : List UInt8)) = false := hk
          have ho : okT n (getV a k) (getV b k) = true := by simp only [okT, wf_get ha ga, wf_get hb gb, Bool.and_self]
          simp only [hk', ho, Bool.not_true, Bool.not_false, cond_true, cond_false]
          exact fin _ (by simp only [pick, gb, ga, hk, cond_true, Bool.not_false, Bool.and_self])
theorem two_ok (n : Nat) : FnOk E two_id (two_W n) := by
  induction n with
  | zero => exact fn2_bot two_ex fun x y => rfl
  | succ n ih =>
    refine two_ok_of n ih fun a b hk => ?_
    simp only [okT, Bool.and_eq_true] at hk
    have ha := wf_iff.1 hk.1
    have hb := wf_iff.1 hk.2
    have h5 : ln5 a.keys b.keys = true := by simp only [ln5, decide_eq_true_eq]; omega
    simp only [two_t, node_eta, h5, cond_true, twoV]
    cases hp : pairsV a b with
    | false => rfl
    | true =>
      have hl := both_len a.keys b.keys
      have := Gr_of (two_loop n ih a b hk.1 hk.2 (both a.keys b.keys) (by omega) 0 [] _ 0 [] [] rfl (Nat.zero_le _) rfl rfl)
      rw [List.drop_zero, List.nil_append, List.nil_append] at this
      exact this
end Go.Proofs.Ytnbohemhgbkdlaa.Bl