/- Part 8 of a proof: the texts S4, one behind the other. -/
import Derived.Test.YtoibjelpldfpfaaGreatDoorGz4
import Derived.Test.YtoibjelpldfpfaaGreatDoorGz7
namespace Go.Proofs.YtoibjelpldfpfaaGreatDoor.Rf
open Go Go.RowKit Go.Sort Go.Proofs.YtoibjelpldfpfaaGreatDoor.Mir
def tx0 : List UInt8 := [105, 109, 97, 103, 101, 58, 32, 100, 10, 110, 101, 116, 119, 111, 114, 107, 115, 58, 10, 32, 32, 100, 101, 102, 97, 117, 108, 116, 58, 32, 110, 117, 108, 108, 10]
def hx0 : List UInt8 := [54, 98, 97, 56, 51, 102, 97, 57, 50, 49, 56, 102, 102, 97, 54, 97, 54, 98, 52, 99, 49, 97, 98, 55, 53, 97, 97, 57, 54, 57, 49, 54, 102, 48, 55, 55, 57, 57, 52, 100, 100, 56, 55, 57, 54, 56, 53, 99, 101, 56, 49, 52, 48, 54, 57, 51, 101, 56, 48, 101, 102, 97, 51, 97]
def blk0 : List UInt8 := [105, 109, 97, 103, 101, 58, 32, 100, 10, 110, 101, 116, 119, 111, 114, 107, 115, 58, 10, 32, 32, 100, 101, 102, 97, 117, 108, 116, 58, 32, 110, 117, 108, 108, 10, 128, 0, 0, 0, 0, 0, 0, 0, 0, 0, 0, 0, 0, 0, 0, 0, 0, 0, 0, 0, 0, 0, 0, 0, 0, 0, 0, 1, 24]
noncomputable def wrd0 : AV E := .agg [.d (.int .u32 1768776039), .d (.int .u32 1698308196), .d (.int .u32 175007092), .d (.int .u32 2003792491), .d (.int .u32 1933183520), .d (.int .u32 543450470), .d (.int .u32 1635085428), .d (.int .u32 975203957), .d (.int .u32 1819019904), .d (.int .u32 0), .d (.int .u32 0), .d (.int .u32 0), .d (.int .u32 0), .d (.int .u32 0), .d (.int .u32 0), .d (.int .u32 280), .d (.int .u32 3051457129), .d (.int .u32 3589092195), .d (.int .u32 56420116), .d (.int .u32 2204206864), .d (.int .u32 867708315), .d (.int .u32 3550498350), .d (.int .u32 1804894918), .d (.int .u32 786274035), .d (.int .u32 326785915), .d (.int .u32 2097753316), .d (.int .u32 3929521236), .d (.int .u32 3886686473), .d (.int .u32 4248482784), .d (.int .u32 3224414318), .d (.int .u32 1859569322), .d (.int .u32 4224888808), .d (.int .u32 2153058238), .d (.int .u32 3557075946), .d (.int .u32 1639866548), .d (.int .u32 2094015902), .d (.int .u32 1150723882), .d (.int .u32 4193189515), .d (.int .u32 1963148386), .d (.int .u32 2994018861), .d (.int .u32 1048667356), .d (.int .u32 1758405193), .d (.int .u32 2373616708), .d (.int .u32 341675838), .d (.int .u32 4182835311), .d (.int .u32 2489301891), .d (.int .u32 650643183), .d (.int .u32 2479779851), .d (.int .u32 3533316334), .d (.int .u32 1417224424), .d (.int .u32 75383124), .d (.int .u32 544132502), .d (.int .u32 2028272676), .d (.int .u32 4219193415), .d (.int .u32 4126893226), .d (.int .u32 146749741), .d (.int .u32 3377594525), .d (.int .u32 581104897), .d (.int .u32 197454539), .d (.int .u32 841885043), .d (.int .u32 3629026150), .d (.int .u32 1000730218), .d (.int .u32 1573755578), .d (.int .u32 4158974335)]
noncomputable def swd_tr : List (FuncId × Func) := []
noncomputable def swd_ti : List (FuncId × Func) := []
noncomputable def swd_hs : List (FuncId × Hint E) := [(202, ({ rounds := 100 } : Hint E))]
noncomputable def swd_B : Oracle E := (orac [(231, srow_W)] [] [] [])
theorem swd_tr_ok : TblOk Tryz.prog swd_tr := .nil
theorem swd_ti_ok : TblOk Tryz.prog swd_ti := .nil
theorem swd_B_ok : OracleOk E swd_B := (orac_ok (.cons srow_ok .nil) .nil .nil .nil)
noncomputable def swd_V : Oracle E × Rnd E := lev swd_B swd_tr swd_ti swd_hs { rounds := 100 } 3
theorem swd_V_ok : OracleOk E swd_V.1 ∧ RndOk E swd_V.2 := lev_ok swd_B_ok mix swd_tr_ok swd_ti_ok 3
theorem words_0 : runC swd_V.1 swd_V.2 { rounds := 100 } Tryz.f202 [.d (.str blk0)] = some wrd0 := by kernel_rfl
end Go.Proofs.YtoibjelpldfpfaaGreatDoor.Rf
