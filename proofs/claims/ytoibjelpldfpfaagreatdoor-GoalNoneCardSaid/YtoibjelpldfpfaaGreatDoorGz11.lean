/- Part 11 of a proof: the texts G2, one behind the other. -/
import Derived.Test.YtoibjelpldfpfaaGreatDoorGz6
import Derived.Test.YtoibjelpldfpfaaGreatDoorGz10
import Derived.WalkKit
import Derived.ProofKit
import Derived.Lib.Builder
import Derived.WalkLawsBesides
import Derived.WalkSpells
namespace Go.Proofs.YtoibjelpldfpfaaGreatDoor.Rf
open Go Go.RowKit Go.Proofs.YtoibjelpldfpfaaGreatDoor.Mir
def cc_id : FuncId := 116
def cc_T : TypeId := 140
theorem cc_ex : ∃ fn, Tryz.prog.funcs[cc_id]? = some fn ∧ (fn.name == "runtime.NumGoroutine") = false ∧ fn.body.isNone = false := ⟨Tryz.f116, by kernel_rfl, by kernel_rfl, by kernel_rfl⟩
section
open Go.RowKit
set_option maxHeartbeats 1000000 in
set_option maxRecDepth 100000 in
theorem cc_fresh (w : World) (b : Nat) (h0 : w.cell? ⟨b, 0, none⟩ = some (.pointer none)) (hsh : w.shape? b = some (140, 2)) (hfz : w.frozen? ⟨b, 0, none⟩ = false) :
    Calls Tryz.prog 116 #[.pointer (some ⟨b, 0, none⟩)] w fun e w' => e = .returned (.tuple #[]) ∧ w' = w.setCell ⟨b, 0, none⟩ (.pointer (some ⟨b, 0, none⟩)) := by
  have hs : (Tryz.prog.info? 140).map (·.size) = some 2 := by kernel_rfl
  obtain ⟨j, hj, hjs⟩ := Option.map_eq_some_iff.1 hs
  have hlies : liesAt Tryz.prog Tryz.prog.depth 140 (2 / Tryz.prog.cellsOf 140) 0 140 1 = true := by kernel_rfl
  go_enter Tryz.func116, Tryz.ntmps116
  go_wp2
  rw [Lib.run_to_unsafe w ⟨b, 0, none⟩ Tryz.underlying138 Tryz.underlying220 hj (by rw [hjs]; decide) hsh (Nat.zero_lt_succ 1)]
  simp only [Result.andThen]
  rw [Oper.upon_value]
  go_wp2
  rw [run_callFunc_extern Tryz.func164 (by kernel_rfl) (by kernel_rfl) (by kernel_rfl) (e := Extern.AbiNoEscape.same) (by kernel_rfl)]
  rw [Lib.run_noEscape]
  simp only [Result.andThen]
  rw [Oper.upon_value]
  go_wp2
  rw [Lib.run_from_unsafe w ⟨b, 0, none⟩ Tryz.underlying220 Tryz.underlying138 hj hsh hlies]
  simp only [Result.andThen]
  rw [Oper.upon_value]
  go_wp2
  go_end0
  exact ⟨rfl, rfl⟩
set_option maxHeartbeats 1000000 in
set_option maxRecDepth 100000 in
theorem cc_used (w : World) (b : Nat) (h0 : w.cell? ⟨b, 0, none⟩ = some (.pointer (some ⟨b, 0, none⟩))) :
    Calls Tryz.prog 116 #[.pointer (some ⟨b, 0, none⟩)] w fun e w' => e = .returned (.tuple #[]) ∧ w' = w := by
  have hs : (Tryz.prog.info? 140).map (·.size) = some 2 := by kernel_rfl
  obtain ⟨j, hj, _⟩ := Option.map_eq_some_iff.1 hs
  go_enter Tryz.func116, Tryz.ntmps116
  go_wp2
  rw [Lib.run_neq_ptr_same w _ Tryz.underlying138 hj]
  go_wp2
  go_end0
  exact ⟨rfl, rfl⟩
end
theorem cc_ok : CopyOk Tryz.prog cc_id cc_T := ⟨fun w b h0 h1 h2 => cc_fresh w b h0 h1 h2, fun w b h0 => cc_used w b h0⟩
def eqI (a b : Int) : Bool := match a, b with
  | .ofNat m, .ofNat n => Nat.beq m n
  | .negSucc m, .negSucc n => Nat.beq m n
  | _, _ => false
theorem eqI_eq {a b : Int} (h : eqI a b = true) : a = b := by
  unfold eqI at h
  split at h
  · rw [Nat.eq_of_beq_eq_true h]
  · rw [Nat.eq_of_beq_eq_true h]
  · cases h
def eqB_ (a b : Bool) : Bool := match a, b with
  | true, true => true
  | false, false => true
  | _, _ => false
theorem eqB__eq {a b : Bool} (h : eqB_ a b = true) : a = b := by cases a <;> cases b <;> first | rfl | cases h
theorem eqS_eq {a b : List UInt8} (h : Pl.eqB a b = true) : a = b := by rw [Pl.eqB_iff] at h; exact of_decide_eq_true h
def eqLs {α : Type} (f : α → α → Bool) : List α → List α → Bool
  | [], [] => true
  | a :: r, b :: s => f a b && eqLs f r s
  | _, _ => false
theorem eqLs_eq {α : Type} {f : α → α → Bool} (hf : ∀ {a b}, f a b = true → a = b) : ∀ {l m : List α}, eqLs f l m = true → l = m
  | [], [], _ => rfl
  | a :: r, b :: s, h => by
    simp only [eqLs, Bool.and_eq_true] at h
    rw [hf h.1, eqLs_eq hf h.2]
  | [], _ :: _, h => by cases h
  | _ :: _, [], h => by cases h
def eqVar (a b : Var) : Bool := Pl.eqB a.key b.key && (Pl.eqB a.val b.val)
theorem eqVar_eq {a b : Var} (h : eqVar a b = true) : a = b := by
  obtain ⟨a0, a1⟩ := a
  obtain ⟨b0, b1⟩ := b
  simp only [eqVar, Bool.and_eq_true] at h
  obtain ⟨h0, h1⟩ := h
  rw [(eqS_eq h0 : a0 = b0), (eqS_eq h1 : a1 = b1)]
def eqPort (a b : Port) : Bool := Pl.eqB a.host b.host && (eqI a.out b.out && (eqI a.in_ b.in_ && (Pl.eqB a.proto b.proto)))
theorem eqPort_eq {a b : Port} (h : eqPort a b = true) : a = b := by
  obtain ⟨a0, a1, a2, a3⟩ := a
  obtain ⟨b0, b1, b2, b3⟩ := b
  simp only [eqPort, Bool.and_eq_true] at h
  obtain ⟨h0, h1, h2, h3⟩ := h
  rw [(eqS_eq h0 : a0 = b0), (eqI_eq h1 : a1 = b1), (eqI_eq h2 : a2 = b2), (eqS_eq h3 : a3 = b3)]
def eqMount (a b : Mount) : Bool := Pl.eqB a.source b.source && (Pl.eqB a.target b.target && (eqB_ a.readOnly b.readOnly))
theorem eqMount_eq {a b : Mount} (h : eqMount a b = true) : a = b := by
  obtain ⟨a0, a1, a2⟩ := a
  obtain ⟨b0, b1, b2⟩ := b
  simp only [eqMount, Bool.and_eq_true] at h
  obtain ⟨h0, h1, h2⟩ := h
  rw [(eqS_eq h0 : a0 = b0), (eqS_eq h1 : a1 = b1), (eqB__eq h2 : a2 = b2)]
def eqDep (a b : Dep) : Bool := Pl.eqB a.service b.service && (eqI a.cond b.cond && (eqB_ a.restart b.restart && (eqB_ a.required b.required)))
theorem eqDep_eq {a b : Dep} (h : eqDep a b = true) : a = b := by
  obtain ⟨a0, a1, a2, a3⟩ := a
  obtain ⟨b0, b1, b2, b3⟩ := b
  simp only [eqDep, Bool.and_eq_true] at h
  obtain ⟨h0, h1, h2, h3⟩ := h
  rw [(eqS_eq h0 : a0 = b0), (eqI_eq h1 : a1 = b1), (eqB__eq h2 : a2 = b2), (eqB__eq h3 : a3 = b3)]
def eqCheck (a b : Check) : Bool := Pl.eqB a.test b.test && (eqI a.every b.every && (eqI a.start b.start && (eqI a.retries b.retries)))
theorem eqCheck_eq {a b : Check} (h : eqCheck a b = true) : a = b := by
  obtain ⟨a0, a1, a2, a3⟩ := a
  obtain ⟨b0, b1, b2, b3⟩ := b
  simp only [eqCheck, Bool.and_eq_true] at h
  obtain ⟨h0, h1, h2, h3⟩ := h
  rw [(eqS_eq h0 : a0 = b0), (eqI_eq h1 : a1 = b1), (eqI_eq h2 : a2 = b2), (eqI_eq h3 : a3 = b3)]
def eqService (a b : Service) : Bool := Pl.eqB a.name b.name && (Pl.eqB a.image b.image && (eqLs Pl.eqB a.command b.command && (eqLs eqVar a.env b.env && (eqLs eqVar a.labels b.labels && (eqLs eqPort a.ports b.ports && (eqLs eqMount a.mounts b.mounts && (eqLs Pl.eqB a.nets b.nets && (eqLs eqDep a.deps b.deps && (eqI a.replicas b.replicas && (eqCheck a.health b.health && (eqI a.restart b.restart && (eqI a.tries b.tries && (eqI a.cpus b.cpus && (eqI a.mem b.mem))))))))))))))
theorem eqService_eq {a b : Service} (h : eqService a b = true) : a = b := by
  obtain ⟨a0, a1, a2, a3, a4, a5, a6, a7, a8, a9, a10, a11, a12, a13, a14⟩ := a
  obtain ⟨b0, b1, b2, b3, b4, b5, b6, b7, b8, b9, b10, b11, b12, b13, b14⟩ := b
  simp only [eqService, Bool.and_eq_true] at h
  obtain ⟨h0, h1, h2, h3, h4, h5, h6, h7, h8, h9, h10, h11, h12, h13, h14⟩ := h
  rw [(eqS_eq h0 : a0 = b0), (eqS_eq h1 : a1 = b1), (eqLs_eq eqS_eq h2 : a2 = b2), (eqLs_eq eqVar_eq h3 : a3 = b3), (eqLs_eq eqVar_eq h4 : a4 = b4), (eqLs_eq eqPort_eq h5 : a5 = b5), (eqLs_eq eqMount_eq h6 : a6 = b6), (eqLs_eq eqS_eq h7 : a7 = b7), (eqLs_eq eqDep_eq h8 : a8 = b8), (eqI_eq h9 : a9 = b9), (eqCheck_eq h10 : a10 = b10), (eqI_eq h11 : a11 = b11), (eqI_eq h12 : a12 = b12), (eqI_eq h13 : a13 = b13), (eqI_eq h14 : a14 = b14)]
def eqProject (a b : Project) : Bool := Pl.eqB a.name b.name && (eqLs eqService a.services b.services && (eqLs Pl.eqB a.nets b.nets && (eqLs Pl.eqB a.vols b.vols)))
theorem eqProject_eq {a b : Project} (h : eqProject a b = true) : a = b := by
  obtain ⟨a0, a1, a2, a3⟩ := a
  obtain ⟨b0, b1, b2, b3⟩ := b
  simp only [eqProject, Bool.and_eq_true] at h
  obtain ⟨h0, h1, h2, h3⟩ := h
  rw [(eqS_eq h0 : a0 = b0), (eqLs_eq eqService_eq h1 : a1 = b1), (eqLs_eq eqS_eq h2 : a2 = b2), (eqLs_eq eqS_eq h3 : a3 = b3)]
def p0 : Project := ⟨[112], [⟨[100, 98], [100], [], [], [], [], [], [[100, 101, 102, 97, 117, 108, 116]], [], (1 : Int), ⟨[], (0 : Int), (0 : Int), (0 : Int)⟩, (0 : Int), (0 : Int), (0 : Int), (0 : Int)⟩, ⟨[119, 101, 98], [100], [], [], [], [], [], [[100, 101, 102, 97, 117, 108, 116]], [⟨[100, 98], (3 : Int), false, true⟩], (1 : Int), ⟨[], (0 : Int), (0 : Int), (0 : Int)⟩, (0 : Int), (0 : Int), (0 : Int), (0 : Int)⟩], [[100, 101, 102, 97, 117, 108, 116]], []⟩
def nd0 : Node := ⟨(3 : Int), [], [[110, 97, 109, 101], [110, 101, 116, 119, 111, 114, 107, 115], [115, 101, 114, 118, 105, 99, 101, 115]], [⟨(1 : Int), [112], [], []⟩, ⟨(3 : Int), [], [[100, 101, 102, 97, 117, 108, 116]], [⟨(0 : Int), [], [], []⟩]⟩, ⟨(3 : Int), [], [[100, 98], [119, 101, 98]], [⟨(3 : Int), [], [[105, 109, 97, 103, 101], [110, 101, 116, 119, 111, 114, 107, 115], [115, 99, 97, 108, 101]], [⟨(1 : Int), [100], [], []⟩, ⟨(3 : Int), [], [[100, 101, 102, 97, 117, 108, 116]], [⟨(0 : Int), [], [], []⟩]⟩, ⟨(1 : Int), [49], [], []⟩]⟩, ⟨(3 : Int), [], [[100, 101, 112, 101, 110, 100, 115, 95, 111, 110], [105, 109, 97, 103, 101], [110, 101, 116, 119, 111, 114, 107, 115], [115, 99, 97, 108, 101]], [⟨(3 : Int), [], [[100, 98]], [⟨(3 : Int), [], [[99, 111, 110, 100, 105, 116, 105, 111, 110], [114, 101, 113, 117, 105, 114, 101, 100], [114, 101, 115, 116, 97, 114, 116]], [⟨(1 : Int), [115, 101, 114, 118, 105, 99, 101, 95, 99, 111, 109, 112, 108, 101, 116, 101, 100, 95, 115, 117, 99, 99, 101, 115, 115, 102, 117, 108, 108, 121], [], []⟩, ⟨(1 : Int), [116, 114, 117, 101], [], []⟩, ⟨(1 : Int), [102, 97, 108, 115, 101], [], []⟩]⟩]⟩, ⟨(1 : Int), [100], [], []⟩, ⟨(3 : Int), [], [[100, 101, 102, 97, 117, 108, 116]], [⟨(0 : Int), [], [], []⟩]⟩, ⟨(1 : Int), [49], [], []⟩]⟩]⟩]⟩
noncomputable def lnode_W : FnW E := fn1 (E := E) .api_Project .api_Node (fun p => eqProject p p0) (fun _ => nd0)
def lnode_id : FuncId := 53
noncomputable def lnode_tr : List (FuncId × Func) := [(20, Tryz.f20), (75, Tryz.f75), (76, Tryz.f76), (78, Tryz.f78), (79, Tryz.f79), (97, Tryz.f97), (99, Tryz.f99), (102, Tryz.f102), (106, Tryz.f106), (114, Tryz.f114), (115, Tryz.f115), (122, Tryz.f122), (123, Tryz.f123), (124, Tryz.f124), (125, Tryz.f125), (126, Tryz.f126), (128, Tryz.f128), (129, Tryz.f129), (131, Tryz.f131), (133, Tryz.f133), (134, Tryz.f134), (135, Tryz.f135), (140, Tryz.f140), (141, Tryz.f141), (142, Tryz.f142), (161, Tryz.f161), (163, Tryz.f163), (168, Tryz.f168), (171, Tryz.f171), (173, Tryz.f173), (185, Tryz.f185), (209, Tryz.f209), (211, Tryz.f211), (213, Tryz.f213), (216, Tryz.f216), (241, Tryz.f241), (242, Tryz.f242), (243, Tryz.f243), (244, Tryz.f244), (245, Tryz.f245), (246, Tryz.f246), (250, Tryz.f250), (251, Tryz.f251), (252, Tryz.f252), (276, Tryz.f276), (277, Tryz.f277), (278, Tryz.f278), (279, Tryz.f279), (280, Tryz.f280), (285, Tryz.f285), (292, Tryz.f292), (304, Tryz.f304), (311, Tryz.f311), (317, Tryz.f317)]
noncomputable def lnode_ti : List (FuncId × Func) := [(87, Tryz.f87), (88, Tryz.f88), (89, Tryz.f89), (92, Tryz.f92), (100, Tryz.f100), (107, Tryz.f107), (117, Tryz.f117), (130, Tryz.f130), (174, Tryz.f174), (181, Tryz.f181), (182, Tryz.f182), (183, Tryz.f183), (188, Tryz.f188), (190, Tryz.f190), (204, Tryz.f204), (212, Tryz.f212), (217, Tryz.f217), (234, Tryz.f234), (236, Tryz.f236), (240, Tryz.f240), (254, Tryz.f254), (255, Tryz.f255), (256, Tryz.f256), (257, Tryz.f257), (258, Tryz.f258), (259, Tryz.f259), (260, Tryz.f260), (261, Tryz.f261), (268, Tryz.f268), (269, Tryz.f269), (271, Tryz.f271), (281, Tryz.f281), (282, Tryz.f282), (283, Tryz.f283), (284, Tryz.f284), (286, Tryz.f286), (294, Tryz.f294), (295, Tryz.f295), (296, Tryz.f296), (300, Tryz.f300), (306, Tryz.f306)]
noncomputable def lnode_hs : List (FuncId × Hint E) := [(20, ({ rounds := 100, opn := [(13, [3])] } : Hint E)), (75, ({ rounds := 100 } : Hint E)), (76, ({ rounds := 100 } : Hint E)), (78, ({ rounds := 100, frz := [29] } : Hint E)), (87, ({ rounds := 100 } : Hint E)), (88, ({ rounds := 100 } : Hint E)), (89, ({ rounds := 100 } : Hint E)), (92, ({ rounds := 100 } : Hint E)), (97, ({ rounds := 100 } : Hint E)), (99, ({ rounds := 100, frz := [5] } : Hint E)), (100, ({ rounds := 100 } : Hint E)), (106, ({ rounds := 100 } : Hint E)), (107, ({ rounds := 100 } : Hint E)), (115, ({ rounds := 100 } : Hint E)), (117, ({ rounds := 100 } : Hint E)), (122, ({ rounds := 100 } : Hint E)), (123, ({ rounds := 100 } : Hint E)), (125, ({ rounds := 100 } : Hint E)), (126, ({ rounds := 100 } : Hint E)), (128, ({ rounds := 100 } : Hint E)), (129, ({ rounds := 100 } : Hint E)), (130, ({ rounds := 100 } : Hint E)), (134, ({ rounds := 100 } : Hint E)), (135, ({ rounds := 100 } : Hint E)), (141, ({ rounds := 100 } : Hint E)), (163, ({ rounds := 100 } : Hint E)), (173, ({ rounds := 100 } : Hint E)), (174, ({ rounds := 100 } : Hint E)), (181, ({ rounds := 100 } : Hint E)), (182, ({ rounds := 100 } : Hint E)), (183, ({ rounds := 100 } : Hint E)), (185, ({ rounds := 100 } : Hint E)), (188, ({ rounds := 100 } : Hint E)), (190, ({ rounds := 100 } : Hint E)), (204, ({ rounds := 100 } : Hint E)), (209, ({ rounds := 100 } : Hint E)), (212, ({ rounds := 100 } : Hint E)), (213, ({ rounds := 100 } : Hint E)), (216, ({ rounds := 100 } : Hint E)), (217, ({ rounds := 100 } : Hint E)), (234, ({ rounds := 100 } : Hint E)), (236, ({ rounds := 100 } : Hint E)), (240, ({ rounds := 100 } : Hint E)), (241, ({ rounds := 100 } : Hint E)), (242, ({ rounds := 100 } : Hint E)), (243, ({ rounds := 100 } : Hint E)), (244, ({ rounds := 100 } : Hint E)), (246, ({ rounds := 100 } : Hint E)), (251, ({ rounds := 100 } : Hint E)), (252, ({ rounds := 100 } : Hint E)), (254, ({ rounds := 100 } : Hint E)), (255, ({ rounds := 100 } : Hint E)), (256, ({ rounds := 100 } : Hint E)), (257, ({ rounds := 100 } : Hint E)), (258, ({ rounds := 100 } : Hint E)), (259, ({ rounds := 100 } : Hint E)), (260, ({ rounds := 100 } : Hint E)), (261, ({ rounds := 100 } : Hint E)), (268, ({ rounds := 100 } : Hint E)), (269, ({ rounds := 100 } : Hint E)), (271, ({ rounds := 100 } : Hint E)), (276, ({ rounds := 100 } : Hint E)), (280, ({ rounds := 100 } : Hint E)), (281, ({ rounds := 100 } : Hint E)), (282, ({ rounds := 100 } : Hint E)), (283, ({ rounds := 100 } : Hint E)), (284, ({ rounds := 100 } : Hint E)), (286, ({ rounds := 100 } : Hint E)), (292, ({ rounds := 100 } : Hint E)), (294, ({ rounds := 100 } : Hint E)), (295, ({ rounds := 100 } : Hint E)), (296, ({ rounds := 100 } : Hint E)), (300, ({ rounds := 100 } : Hint E)), (304, ({ rounds := 100 } : Hint E)), (306, ({ rounds := 100 } : Hint E)), (311, ({ rounds := 100 } : Hint E)), (317, ({ rounds := 100 } : Hint E))]
noncomputable def lnode_B : Oracle E := (withC (orac [(138, d138_W), (139, d139_W), (104, d104_W), (105, d105_W), (137, d137_W), (143, d143_W), (146, d146_W), (184, d184_W), (108, d108_W), (167, d167_W), (145, d145_W), (121, d121_W), (127, d127_W), (162, d162_W), (57, d57_W), (175, d175_W), (178, d178_W), (206, d206_W), (208, d208_W), (30, nsortedk_W), (302, d302_W), (303, d303_W), (101, nget_W), (103, nsamek_W), (77, ndsortk_W), (98, ntext_W), (96, nwith_W), (248, d248_W), (249, d249_W), (238, d238_W), (247, d247_W), (239, d239_W), (180, d180_W), (287, d287_W), (179, d179_W), (237, d237_W), (186, d186_W), (189, d189_W), (132, d132_W), (172, d172_W), (147, d147_W), (169, d169_W), (310, d310_W), (52, d52_W), (109, equal_W), (91, d91_W), (144, scut_W), (253, d253_W), (63, sjoin_W)] [(119, cloneF 98), (187, cloneF 93), (21, cloneF 9)] [] []) cc_id cc_T)
theorem lnode_tr_ok : TblOk Tryz.prog lnode_tr := .cons Tryz.func20 (by kernel_rfl) (by kernel_rfl) <| .cons Tryz.func75 (by kernel_rfl) (by kernel_rfl) <| .cons Tryz.func76 (by kernel_rfl) (by kernel_rfl) <| .cons Tryz.func78 (by kernel_rfl) (by kernel_rfl) <| .cons Tryz.func79 (by kernel_rfl) (by kernel_rfl) <| .cons Tryz.func97 (by kernel_rfl) (by kernel_rfl) <| .cons Tryz.func99 (by kernel_rfl) (by kernel_rfl) <| .cons Tryz.func102 (by kernel_rfl) (by kernel_rfl) <| .cons Tryz.func106 (by kernel_rfl) (by kernel_rfl) <| .cons Tryz.func114 (by kernel_rfl) (by kernel_rfl) <| .cons Tryz.func115 (by kernel_rfl) (by kernel_rfl) <| .cons Tryz.func122 (by kernel_rfl) (by kernel_rfl) <| .cons Tryz.func123 (by kernel_rfl) (by kernel_rfl) <| .cons Tryz.func124 (by kernel_rfl) (by kernel_rfl) <| .cons Tryz.func125 (by kernel_rfl) (by kernel_rfl) <| .cons Tryz.func126 (by kernel_rfl) (by kernel_rfl) <| .cons Tryz.func128 (by kernel_rfl) (by kernel_rfl) <| .cons Tryz.func129 (by kernel_rfl) (by kernel_rfl) <| .cons Tryz.func131 (by kernel_rfl) (by kernel_rfl) <| .cons Tryz.func133 (by kernel_rfl) (by kernel_rfl) <| .cons Tryz.func134 (by kernel_rfl) (by kernel_rfl) <| .cons Tryz.func135 (by kernel_rfl) (by kernel_rfl) <| .cons Tryz.func140 (by kernel_rfl) (by kernel_rfl) <| .cons Tryz.func141 (by kernel_rfl) (by kernel_rfl) <| .cons Tryz.func142 (by kernel_rfl) (by kernel_rfl) <| .cons Tryz.func161 (by kernel_rfl) (by kernel_rfl) <| .cons Tryz.func163 (by kernel_rfl) (by kernel_rfl) <| .cons Tryz.func168 (by kernel_rfl) (by kernel_rfl) <| .cons Tryz.func171 (by kernel_rfl) (by kernel_rfl) <| .cons Tryz.func173 (by kernel_rfl) (by kernel_rfl) <| .cons Tryz.func185 (by kernel_rfl) (by kernel_rfl) <| .cons Tryz.func209 (by kernel_rfl) (by kernel_rfl) <| .cons Tryz.func211 (by kernel_rfl) (by kernel_rfl) <| .cons Tryz.func213 (by kernel_rfl) (by kernel_rfl) <| .cons Tryz.func216 (by kernel_rfl) (by kernel_rfl) <| .cons Tryz.func241 (by kernel_rfl) (by kernel_rfl) <| .cons Tryz.func242 (by kernel_rfl) (by kernel_rfl) <| .cons Tryz.func243 (by kernel_rfl) (by kernel_rfl) <| .cons Tryz.func244 (by kernel_rfl) (by kernel_rfl) <| .cons Tryz.func245 (by kernel_rfl) (by kernel_rfl) <| .cons Tryz.func246 (by kernel_rfl) (by kernel_rfl) <| .cons Tryz.func250 (by kernel_rfl) (by kernel_rfl) <| .cons Tryz.func251 (by kernel_rfl) (by kernel_rfl) <| .cons Tryz.func252 (by kernel_rfl) (by kernel_rfl) <| .cons Tryz.func276 (by kernel_rfl) (by kernel_rfl) <| .cons Tryz.func277 (by kernel_rfl) (by kernel_rfl) <| .cons Tryz.func278 (by kernel_rfl) (by kernel_rfl) <| .cons Tryz.func279 (by kernel_rfl) (by kernel_rfl) <| .cons Tryz.func280 (by kernel_rfl) (by kernel_rfl) <| .cons Tryz.func285 (by kernel_rfl) (by kernel_rfl) <| .cons Tryz.func292 (by kernel_rfl) (by kernel_rfl) <| .cons Tryz.func304 (by kernel_rfl) (by kernel_rfl) <| .cons Tryz.func311 (by kernel_rfl) (by kernel_rfl) <| .cons Tryz.func317 (by kernel_rfl) (by kernel_rfl) <| .nil
theorem lnode_ti_ok : TblOk Tryz.prog lnode_ti := .cons Tryz.func87 (by kernel_rfl) (by kernel_rfl) <| .cons Tryz.func88 (by kernel_rfl) (by kernel_rfl) <| .cons Tryz.func89 (by kernel_rfl) (by kernel_rfl) <| .cons Tryz.func92 (by kernel_rfl) (by kernel_rfl) <| .cons Tryz.func100 (by kernel_rfl) (by kernel_rfl) <| .cons Tryz.func107 (by kernel_rfl) (by kernel_rfl) <| .cons Tryz.func117 (by kernel_rfl) (by kernel_rfl) <| .cons Tryz.func130 (by kernel_rfl) (by kernel_rfl) <| .cons Tryz.func174 (by kernel_rfl) (by kernel_rfl) <| .cons Tryz.func181 (by kernel_rfl) (by kernel_rfl) <| .cons Tryz.func182 (by kernel_rfl) (by kernel_rfl) <| .cons Tryz.func183 (by kernel_rfl) (by kernel_rfl) <| .cons Tryz.func188 (by kernel_rfl) (by kernel_rfl) <| .cons Tryz.func190 (by kernel_rfl) (by kernel_rfl) <| .cons Tryz.func204 (by kernel_rfl) (by kernel_rfl) <| .cons Tryz.func212 (by kernel_rfl) (by kernel_rfl) <| .cons Tryz.func217 (by kernel_rfl) (by kernel_rfl) <| .cons Tryz.func234 (by kernel_rfl) (by kernel_rfl) <| .cons Tryz.func236 (by kernel_rfl) (by kernel_rfl) <| .cons Tryz.func240 (by kernel_rfl) (by kernel_rfl) <| .cons Tryz.func254 (by kernel_rfl) (by kernel_rfl) <| .cons Tryz.func255 (by kernel_rfl) (by kernel_rfl) <| .cons Tryz.func256 (by kernel_rfl) (by kernel_rfl) <| .cons Tryz.func257 (by kernel_rfl) (by kernel_rfl) <| .cons Tryz.func258 (by kernel_rfl) (by kernel_rfl) <| .cons Tryz.func259 (by kernel_rfl) (by kernel_rfl) <| .cons Tryz.func260 (by kernel_rfl) (by kernel_rfl) <| .cons Tryz.func261 (by kernel_rfl) (by kernel_rfl) <| .cons Tryz.func268 (by kernel_rfl) (by kernel_rfl) <| .cons Tryz.func269 (by kernel_rfl) (by kernel_rfl) <| .cons Tryz.func271 (by kernel_rfl) (by kernel_rfl) <| .cons Tryz.func281 (by kernel_rfl) (by kernel_rfl) <| .cons Tryz.func282 (by kernel_rfl) (by kernel_rfl) <| .cons Tryz.func283 (by kernel_rfl) (by kernel_rfl) <| .cons Tryz.func284 (by kernel_rfl) (by kernel_rfl) <| .cons Tryz.func286 (by kernel_rfl) (by kernel_rfl) <| .cons Tryz.func294 (by kernel_rfl) (by kernel_rfl) <| .cons Tryz.func295 (by kernel_rfl) (by kernel_rfl) <| .cons Tryz.func296 (by kernel_rfl) (by kernel_rfl) <| .cons Tryz.func300 (by kernel_rfl) (by kernel_rfl) <| .cons Tryz.func306 (by kernel_rfl) (by kernel_rfl) <| .nil
theorem lnode_B_ok : OracleOk E lnode_B := (withC_ok (orac_ok (.cons d138_ok (.cons d139_ok (.cons d104_ok (.cons d105_ok (.cons d137_ok (.cons d143_ok (.cons d146_ok (.cons d184_ok (.cons d108_ok (.cons d167_ok (.cons d145_ok (.cons d121_ok (.cons d127_ok (.cons d162_ok (.cons d57_ok (.cons d175_ok (.cons d178_ok (.cons d206_ok (.cons d208_ok (.cons nsortedk_ok (.cons d302_ok (.cons d303_ok (.cons nget_ok (.cons nsamek_ok (.cons ndsortk_ok (.cons ntext_ok (.cons nwith_ok (.cons d248_ok (.cons d249_ok (.cons d238_ok (.cons d247_ok (.cons d239_ok (.cons d180_ok (.cons d287_ok (.cons d179_ok (.cons d237_ok (.cons d186_ok (.cons d189_ok (.cons d132_ok (.cons d172_ok (.cons d147_ok (.cons d169_ok (.cons d310_ok (.cons d52_ok (.cons equal_ok (.cons d91_ok (.cons scut_ok (.cons d253_ok (.cons sjoin_ok .nil))))))))))))))))))))))))))))))))))))))))))))))))) (.cons (clone_fresh (T := 96) (b := 4) (e := 98) (fn := Tryz.f119) (by kernel_rfl) (by kernel_rfl) (by kernel_rfl) (by kernel_rfl) (by kernel_rfl) (by kernel_rfl)) (.cons (clone_fresh (T := 30) (b := 4) (e := 93) (fn := Tryz.f187) (by kernel_rfl) (by kernel_rfl) (by kernel_rfl) (by kernel_rfl) (by kernel_rfl) (by kernel_rfl)) (.cons (clone_fresh (T := 23) (b := 4) (e := 9) (fn := Tryz.f21) (by kernel_rfl) (by kernel_rfl) (by kernel_rfl) (by kernel_rfl) (by kernel_rfl) (by kernel_rfl)) .nil))) .nil .nil) cc_ex cc_ok)
noncomputable def lnode_V : Oracle E × Rnd E := lev lnode_B lnode_tr lnode_ti lnode_hs { rounds := 100 } 40
theorem lnode_V_ok : OracleOk E lnode_V.1 ∧ RndOk E lnode_V.2 := lev_ok lnode_B_ok mix lnode_tr_ok lnode_ti_ok 40
theorem node_0 : Mir.runT lnode_V.1 lnode_V.2 { rounds := 100 } Tryz.f53 [⟨.api_Project, p0⟩] = some [⟨.api_Node, nd0⟩] := by kernel_rfl
theorem lnode_ok : FnOk E lnode_id lnode_W := fn1_calls ⟨Tryz.f53, by kernel_rfl, by kernel_rfl, by kernel_rfl⟩ fun p hk => by
  have h := eqProject_eq hk
  subst h
  exact runT_ok lnode_V_ok.1 lnode_V_ok.2 mix (by kernel_rfl) node_0
end Go.Proofs.YtoibjelpldfpfaaGreatDoor.Rf
