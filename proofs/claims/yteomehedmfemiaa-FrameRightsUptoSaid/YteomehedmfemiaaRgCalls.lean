/- Frame: the law FrameRights answers true, whatever it is handed (of at most 1048576 elements a slice). -/
import Derived.Test.YteomehedmfemiaaRgGuest
set_option linter.unusedSimpArgs false
set_option linter.unusedVariables false
namespace Go.Proofs.Yteomehedmfemiaa
open Go.RowKit
theorem frights_calls (W : World) (pa sl b : Int) (mo : Bool) (en pr cl st pc wa : Int) (wt : Bool) (want : Int)
    {ua sa da wa' va ra : Option Addr} {un uc sn sc dn dc wn wc vn vc rn rc : Nat} {ul : List Int} {ls ld lv lr : List VV} {lw : List TT}
    (hu : CellRow W ua un uc (ul.map (.int .i64))) (hs : CellRow W sa sn sc (vvC ls)) (hd : CellRow W da dn dc (vvC ld)) (hw : CellRow W wa' wn wc (ttC lw)) (hv : CellRow W va vn vc (vvC lv)) (hr : CellRow W ra rn rc (vvC lr))
    (eu : ul.length = un) (es : ls.length = sn) (ed : ld.length = dn) (ew : lw.length = wn) (ev : lv.length = vn) (er : lr.length = rn)
    (bu : un ≤ 1048576) (bs : sn ≤ 1048576) (bd : dn ≤ 1048576) (bw : wn ≤ 1048576) (bv : vn ≤ 1048576) (br : rn ≤ 1048576) :
    Calls Try.prog 3 #[.agg #[.int .i64 pa, .int .i64 sl, .int .i64 b, .bool mo, .slice ua un uc],
      .agg #[.int .u8 en, .int .i64 pr, .int .i64 cl, .int .i64 st, .slice sa sn sc, .slice da dn dc, .slice wa' wn wc, .slice va vn vc, .int .i64 pc, .slice ra rn rc, .bool wt, .int .i64 wa], .int .i64 want] W fun e w' => e = .returned (.bool true) ∧ Below W.heap.size W w' := by
  have hl : ∀ g ∈ ([.sl ua un uc (ul.map (.int .i64)), .sl sa sn sc (vvC ls), .sl da dn dc (vvC ld), .sl wa' wn wc (ttC lw), .sl va vn vc (vvC lv), .sl ra rn rc (vvC lr)] : List GV), g.ok W := by
    intro g hg
    simp only [List.mem_cons, List.not_mem_nil, or_false] at hg
    rcases hg with rfl | rfl | rfl | rfl | rfl | rfl
    · exact ⟨hu, intC_flat _⟩
    · exact ⟨hs, vvC_flat _⟩
    · exact ⟨hd, vvC_flat _⟩
    · exact ⟨hw, ttC_flat _⟩
    · exact ⟨hv, vvC_flat _⟩
    · exact ⟨hr, vvC_flat _⟩
  refine true_of_gl OF_sound mixed18 (2000010 + 10) 3 _ W hl _ _
    (lvr_cons (vr_agg (lvr_cons (.int _ _) (lvr_cons (.int _ _) (lvr_cons (.int _ _) (lvr_cons (.bool _) (lvr_cons (gv_slice hl (j := 0) rfl) lvr_nil))))))
      (lvr_cons (vr_agg (lvr_cons (.int _ _) (lvr_cons (.int _ _) (lvr_cons (.int _ _) (lvr_cons (.int _ _) (lvr_cons (gv_slice hl (j := 1) rfl) (lvr_cons (gv_slice hl (j := 2) rfl) (lvr_cons (gv_slice hl (j := 3) rfl) (lvr_cons (gv_slice hl (j := 4) rfl) (lvr_cons (.int _ _) (lvr_cons (gv_slice hl (j := 5) rfl) (lvr_cons (.bool _) (lvr_cons (.int _ _) lvr_nil)))))))))))))
        (lvr_cons (.int _ _) lvr_nil))) ?_
  exact frights_run (M := 2000010) (Nat.le_refl _) pa sl b mo (guest_I eu hu rfl) (by omega) (guest_V es hs rfl) (guest_V ed hd rfl) (guest_T ew hw rfl) (guest_V ev hv rfl) (guest_V er hr rfl) (by omega) (by omega) (by omega) (by omega) (by omega) want
end Go.Proofs.Yteomehedmfemiaa
