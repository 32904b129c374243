/- Part 9 of a proof: the texts S5, one behind the other. -/
import Derived.Test.YtoibjelpldfpfaaGreatDoorGz4
import Derived.Test.YtoibjelpldfpfaaGreatDoorGz7
namespace Go.Proofs.YtoibjelpldfpfaaGreatDoor.Rf
open Go Go.RowKit Go.Sort Go.Proofs.YtoibjelpldfpfaaGreatDoor.Mir
noncomputable def con0 : AV E := .agg [.d (.int .u32 1116352408), .d (.int .u32 1899447441), .d (.int .u32 3049323471), .d (.int .u32 3921009573), .d (.int .u32 961987163), .d (.int .u32 1508970993), .d (.int .u32 2453635748), .d (.int .u32 2870763221), .d (.int .u32 3624381080), .d (.int .u32 310598401), .d (.int .u32 607225278), .d (.int .u32 1426881987), .d (.int .u32 1925078388), .d (.int .u32 2162078206), .d (.int .u32 2614888103), .d (.int .u32 3248222580), .d (.int .u32 3835390401), .d (.int .u32 4022224774), .d (.int .u32 264347078), .d (.int .u32 604807628), .d (.int .u32 770255983), .d (.int .u32 1249150122), .d (.int .u32 1555081692), .d (.int .u32 1996064986), .d (.int .u32 2554220882), .d (.int .u32 2821834349), .d (.int .u32 2952996808), .d (.int .u32 3210313671), .d (.int .u32 3336571891), .d (.int .u32 3584528711), .d (.int .u32 113926993), .d (.int .u32 338241895), .d (.int .u32 666307205), .d (.int .u32 773529912), .d (.int .u32 1294757372), .d (.int .u32 1396182291), .d (.int .u32 1695183700), .d (.int .u32 1986661051), .d (.int .u32 2177026350), .d (.int .u32 2456956037), .d (.int .u32 2730485921), .d (.int .u32 2820302411), .d (.int .u32 3259730800), .d (.int .u32 3345764771), .d (.int .u32 3516065817), .d (.int .u32 3600352804), .d (.int .u32 4094571909), .d (.int .u32 275423344), .d (.int .u32 430227734), .d (.int .u32 506948616), .d (.int .u32 659060556), .d (.int .u32 883997877), .d (.int .u32 958139571), .d (.int .u32 1322822218), .d (.int .u32 1537002063), .d (.int .u32 1747873779), .d (.int .u32 1955562222), .d (.int .u32 2024104815), .d (.int .u32 2227730452), .d (.int .u32 2361852424), .d (.int .u32 2428436474), .d (.int .u32 2756734187), .d (.int .u32 3204031479), .d (.int .u32 3329325298)]
noncomputable def scn_tr : List (FuncId × Func) := []
noncomputable def scn_ti : List (FuncId × Func) := []
noncomputable def scn_hs : List (FuncId × Hint E) := [(158, ({ rounds := 100 } : Hint E))]
noncomputable def scn_B : Oracle E := (orac [(156, sprm_W), (157, sroot_W)] [] [] [])
theorem scn_tr_ok : TblOk Tryz.prog scn_tr := .nil
theorem scn_ti_ok : TblOk Tryz.prog scn_ti := .nil
theorem scn_B_ok : OracleOk E scn_B := (orac_ok (.cons sprm_ok (.cons sroot_ok .nil)) .nil .nil .nil)
noncomputable def scn_V : Oracle E × Rnd E := lev scn_B scn_tr scn_ti scn_hs { rounds := 100 } 3
theorem scn_V_ok : OracleOk E scn_V.1 ∧ RndOk E scn_V.2 := lev_ok scn_B_ok mix scn_tr_ok scn_ti_ok 3
theorem constants_0 : runC scn_V.1 scn_V.2 { rounds := 100 } Tryz.f158 [] = some con0 := by kernel_rfl
end Go.Proofs.YtoibjelpldfpfaaGreatDoor.Rf
