/- The two struct arguments of FrameRights, opened. -/
import Derived.Test.YteomehedmfemiaaRows
import Derived.Test.YteomehedmfemiaaRgCalls
import Derived.Test.YteomehedmfemiaaRowNest
set_option linter.unusedSimpArgs false
set_option linter.unusedVariables false
set_option maxRecDepth 100000
namespace Go.Proofs.Yteomehedmfemiaa
open Go.RowKit Go.ChangeShapes Go.WideShapes Go.Deep
theorem arr5 {cs : Array Value} (h : cs.size = 5) : ∃ a b c d e, cs = #[a, b, c, d, e] := by
  obtain ⟨l⟩ := cs
  match l, h with
  | [a, b, c, d, e], _ => exact ⟨a, b, c, d, e, rfl⟩
theorem arr12 {cs : Array Value} (h : cs.size = 12) : ∃ a b c d e f g i j k l m, cs = #[a, b, c, d, e, f, g, i, j, k, l, m] := by
  obtain ⟨x⟩ := cs
  match x, h with
  | [a, b, c, d, e, f, g, i, j, k, l, m], _ => exact ⟨a, b, c, d, e, f, g, i, j, k, l, m, rfl⟩
theorem ints_of : ∀ (zs : List (List Int)), (∀ z ∈ zs, z.length = 1) → ∃ l : List Int, l.length = zs.length ∧ intCells [.i64] zs = l.map (.int .i64)
  | [], _ => ⟨[], rfl, rfl⟩
  | z :: zs, h => by
    obtain ⟨l, h1, h2⟩ := ints_of zs fun y hy => h y (by simp [hy])
    match z, h z (by simp) with
    | [a], _ => exact ⟨a :: l, by simp [h1], by show [Value.int .i64 a] ++ intCells [.i64] zs = _; rw [h2]; rfl⟩
/-- a slice is not longer than a part's reading -/
def InParts {H : Type} (parts : List (DataW H)) (n : Nat) : Prop := n = 0 ∨ ∃ el sp, DataW.slice el sp ∈ parts ∧ n ≤ el.length
theorem shape_open {H : Type} {enc : TypeId × Value → H} {W : World} {b0 base : Nat} {spare : Nat → Bool} {held : Bool} {v : Value} {d : DataW H} {p : List MemPlace} (h : DataW.Trod enc Try.prog W base spare held 24 v d p) (hv : Value.okWide Try.prog W .any b0 24 v) :
    ∃ (pa sl b : Int) (mo : Bool) (a : Option Addr) (n c : Nat) (ul : List Int) (parts : List (DataW H)), v = .agg #[.int .i64 pa, .int .i64 sl, .int .i64 b, .bool mo, .slice a n c] ∧ d = .agg parts ∧ ul.length = n ∧ CellRow W a n c (ul.map (.int .i64)) ∧ InParts parts n := by
  obtain ⟨cs, rfl, hsz⟩ := okWide_struct Try.underlying24 hv
  obtain ⟨c0, c1, c2, c3, c4, rfl⟩ := arr5 (hsz.trans (by kernel_rfl))
  obtain ⟨parts, rfl, hp⟩ := part_trod Try.underlying24 h
  obtain ⟨y0, n0, m0, t0⟩ := hp 0 _ c0 rfl rfl (by kernel_rfl) rfl
  obtain ⟨y1, n1, m1, t1⟩ := hp 1 _ c1 rfl rfl (by kernel_rfl) rfl
  obtain ⟨y2, n2, m2, t2⟩ := hp 2 _ c2 rfl rfl (by kernel_rfl) rfl
  obtain ⟨y3, n3, m3, t3⟩ := hp 3 _ c3 rfl rfl (by kernel_rfl) rfl
  obtain ⟨y4, n4, m4, t4⟩ := hp 4 _ c4 rfl rfl (by kernel_rfl) rfl
  obtain ⟨pa, e0, _, _⟩ := DataW.trod_int Try.underlying3 t0
  obtain ⟨sl, e1, _, _⟩ := DataW.trod_int Try.underlying3 t1
  obtain ⟨b, e2, _, _⟩ := DataW.trod_int Try.underlying3 t2
  obtain ⟨mo, e3, _⟩ := DataW.trod_bool Try.underlying4 t3
  obtain rfl : c0 = _ := (List.cons.inj e0).1
  obtain rfl : c1 = _ := (List.cons.inj e1).1
  obtain rfl : c2 = _ := (List.cons.inj e2).1
  obtain rfl : c3 = _ := (List.cons.inj e3).1
  have ok4 : Value.okWide Try.prog W .any b0 22 c4 := part_slice (ts := [3, 3, 3, 4, 22]) (i := 4) Try.underlying24 hv (by kernel_rfl) rfl rfl Try.underlying22
  obtain ⟨a, n, c, rfl⟩ := okWide_slice Try.underlying22 ok4
  have tr : DataW.Trod enc Try.prog W base spare held 22 (.slice a n c) y4.1 y4.2 := ⟨n4, t4⟩
  obtain ⟨a', n', c', ul, e4, hl, hr⟩ := int_row Try.underlying22 Try.underlying3 (by kernel_rfl) tr ok4
  cases e4
  refine ⟨pa, sl, b, mo, a, n, c, ul, parts, rfl, rfl, hl, hr, ?_⟩
  rcases slice_len Try.underlying22 tr with h0 | ⟨el, sp, he, hle⟩
  · exact .inl h0
  · exact .inr ⟨el, sp, he ▸ m4, hle⟩
theorem slV_open {H : Type} {enc : TypeId × Value → H} {W : World} {b0 base : Nat} {spare : Nat → Bool} {held : Bool} {x : Value} {y : DataW H × List MemPlace} {k : Nat} {parts : List (DataW H)} (hm : y.1 ∈ parts) (h : DataW.trod enc Try.prog W base spare held k 26 [x] = some y) (ok : Value.okWide Try.prog W .any b0 26 x) :
    ∃ (a : Option Addr) (n c : Nat) (l : List VV), x = .slice a n c ∧ l.length = n ∧ CellRow W a n c (vvC l) ∧ InParts parts n := by
  obtain ⟨a, n, c, rfl⟩ := okWide_slice Try.underlying26 ok
  have tr : DataW.Trod enc Try.prog W base spare held 26 (.slice a n c) y.1 y.2 := ⟨k, h⟩
  obtain ⟨a', n', c', zs, e, hl, hz, _, hr⟩ := struct_row (ks := [.u8, .i64]) Try.underlying26 Try.underlying41 (by kernel_rfl) (by kernel_rfl) rfl (fun j f hf => by
    rcases j with _ | _ | j
    · simp at hf; subst hf; exact ⟨_, rfl, Try.underlying39⟩
    · simp at hf; subst hf; exact ⟨_, rfl, Try.underlying2⟩
    · simp at hf) tr ok
  cases e
  obtain ⟨l, h1, h2⟩ := vv_of zs hz
  rw [h2] at hr
  refine ⟨a, n, c, l, rfl, h1.trans hl, hr, ?_⟩
  rcases slice_len Try.underlying26 tr with h0 | ⟨el, sp, he, hle⟩
  · exact .inl h0
  · exact .inr ⟨el, sp, he ▸ hm, hle⟩
theorem slT_open {H : Type} {enc : TypeId × Value → H} {W : World} {b0 base : Nat} {spare : Nat → Bool} {held : Bool} {x : Value} {y : DataW H × List MemPlace} {k : Nat} {parts : List (DataW H)} (hm : y.1 ∈ parts) (h : DataW.trod enc Try.prog W base spare held k 27 [x] = some y) (ok : Value.okWide Try.prog W .any b0 27 x) :
    ∃ (a : Option Addr) (n c : Nat) (l : List TT), x = .slice a n c ∧ l.length = n ∧ CellRow W a n c (ttC l) ∧ InParts parts n := by
  obtain ⟨a, n, c, rfl⟩ := okWide_slice Try.underlying27 ok
  have tr : DataW.Trod enc Try.prog W base spare held 27 (.slice a n c) y.1 y.2 := ⟨k, h⟩
  obtain ⟨a', n', c', zs, e, hl, hz, _, hr⟩ := struct_row (ks := [.u8, .i64, .i64, .i64]) Try.underlying27 Try.underlying92 (by kernel_rfl) (by kernel_rfl) rfl (fun j f hf => by
    rcases j with _ | _ | _ | _ | j
    · simp at hf; subst hf; exact ⟨_, rfl, by kernel_rfl⟩
    · simp at hf; subst hf; exact ⟨_, rfl, by kernel_rfl⟩
    · simp at hf; subst hf; exact ⟨_, rfl, by kernel_rfl⟩
    · simp at hf; subst hf; exact ⟨_, rfl, by kernel_rfl⟩
    · simp at hf) tr ok
  cases e
  obtain ⟨l, h1, h2⟩ := tt_of zs hz
  rw [h2] at hr
  refine ⟨a, n, c, l, rfl, h1.trans hl, hr, ?_⟩
  rcases slice_len Try.underlying27 tr with h0 | ⟨el, sp, he, hle⟩
  · exact .inl h0
  · exact .inr ⟨el, sp, he ▸ hm, hle⟩
theorem frame_open {H : Type} {enc : TypeId × Value → H} {W : World} {b0 base : Nat} {spare : Nat → Bool} {held : Bool} {v : Value} {d : DataW H} {p : List MemPlace} (h : DataW.Trod enc Try.prog W base spare held 29 v d p) (hv : Value.okWide Try.prog W .any b0 29 v) :
    ∃ (en pr cl st pc wa : Int) (wt : Bool) (sa da wa' va ra : Option Addr) (sn sc dn dc wn wc vn vc rn rc : Nat) (ls ld lv lr : List VV) (lw : List TT) (parts : List (DataW H)),
      v = .agg #[.int .u8 en, .int .i64 pr, .int .i64 cl, .int .i64 st, .slice sa sn sc, .slice da dn dc, .slice wa' wn wc, .slice va vn vc, .int .i64 pc, .slice ra rn rc, .bool wt, .int .i64 wa] ∧ d = .agg parts ∧
      (ls.length = sn ∧ CellRow W sa sn sc (vvC ls) ∧ InParts parts sn) ∧ (ld.length = dn ∧ CellRow W da dn dc (vvC ld) ∧ InParts parts dn) ∧ (lw.length = wn ∧ CellRow W wa' wn wc (ttC lw) ∧ InParts parts wn) ∧ (lv.length = vn ∧ CellRow W va vn vc (vvC lv) ∧ InParts parts vn) ∧ (lr.length = rn ∧ CellRow W ra rn rc (vvC lr) ∧ InParts parts rn) := by
  obtain ⟨cs, rfl, hsz⟩ := okWide_struct Try.underlying29 hv
  obtain ⟨c0, c1, c2, c3, c4, c5, c6, c7, c8, c9, c10, c11, rfl⟩ := arr12 (hsz.trans (by kernel_rfl))
  obtain ⟨parts, rfl, hp⟩ := part_trod Try.underlying29 h
  have hts : Try.prog.cellTypes Try.prog.depth 29 = some [25, 3, 2, 3, 26, 26, 27, 26, 3, 26, 4, 3] := by kernel_rfl
  obtain ⟨y0, n0, m0, t0⟩ := hp 0 _ c0 rfl rfl (by kernel_rfl) rfl
  obtain ⟨y1, n1, m1, t1⟩ := hp 1 _ c1 rfl rfl (by kernel_rfl) rfl
  obtain ⟨y2, n2, m2, t2⟩ := hp 2 _ c2 rfl rfl (by kernel_rfl) rfl
  obtain ⟨y3, n3, m3, t3⟩ := hp 3 _ c3 rfl rfl (by kernel_rfl) rfl
  obtain ⟨y4, n4, m4, t4⟩ := hp 4 _ c4 rfl rfl (by kernel_rfl) rfl
  obtain ⟨y5, n5, m5, t5⟩ := hp 5 _ c5 rfl rfl (by kernel_rfl) rfl
  obtain ⟨y6, n6, m6, t6⟩ := hp 6 _ c6 rfl rfl (by kernel_rfl) rfl
  obtain ⟨y7, n7, m7, t7⟩ := hp 7 _ c7 rfl rfl (by kernel_rfl) rfl
  obtain ⟨y8, n8, m8, t8⟩ := hp 8 _ c8 rfl rfl (by kernel_rfl) rfl
  obtain ⟨y9, n9, m9, t9⟩ := hp 9 _ c9 rfl rfl (by kernel_rfl) rfl
  obtain ⟨y10, n10, m10, t10⟩ := hp 10 _ c10 rfl rfl (by kernel_rfl) rfl
  obtain ⟨y11, n11, m11, t11⟩ := hp 11 _ c11 rfl rfl (by kernel_rfl) rfl
  obtain ⟨en, e0, _, _⟩ := DataW.trod_int Try.underlying25 t0
  obtain rfl : c0 = _ := (List.cons.inj e0).1
  obtain ⟨pr, e1, _, _⟩ := DataW.trod_int Try.underlying3 t1
  obtain rfl : c1 = _ := (List.cons.inj e1).1
  obtain ⟨cl, e2, _, _⟩ := DataW.trod_int Try.underlying2 t2
  obtain rfl : c2 = _ := (List.cons.inj e2).1
  obtain ⟨st, e3, _, _⟩ := DataW.trod_int Try.underlying3 t3
  obtain rfl : c3 = _ := (List.cons.inj e3).1
  obtain ⟨pc, e8, _, _⟩ := DataW.trod_int Try.underlying3 t8
  obtain rfl : c8 = _ := (List.cons.inj e8).1
  obtain ⟨wt, e10, _⟩ := DataW.trod_bool Try.underlying4 t10
  obtain rfl : c10 = _ := (List.cons.inj e10).1
  obtain ⟨wa, e11, _, _⟩ := DataW.trod_int Try.underlying3 t11
  obtain rfl : c11 = _ := (List.cons.inj e11).1
  obtain ⟨a4, k4, q4, l4, rfl, w4⟩ := slV_open m4 t4 (part_slice (i := 4) Try.underlying29 hv hts rfl rfl Try.underlying26)
  obtain ⟨a5, k5, q5, l5, rfl, w5⟩ := slV_open m5 t5 (part_slice (i := 5) Try.underlying29 hv hts rfl rfl Try.underlying26)
  obtain ⟨a6, k6, q6, l6, rfl, w6⟩ := slT_open m6 t6 (part_slice (i := 6) Try.underlying29 hv hts rfl rfl Try.underlying27)
  obtain ⟨a7, k7, q7, l7, rfl, w7⟩ := slV_open m7 t7 (part_slice (i := 7) Try.underlying29 hv hts rfl rfl Try.underlying26)
  obtain ⟨a9, k9, q9, l9, rfl, w9⟩ := slV_open m9 t9 (part_slice (i := 9) Try.underlying29 hv hts rfl rfl Try.underlying26)
  exact ⟨en, pr, cl, st, pc, wa, wt, a4, a5, a6, a7, a9, k4, q4, k5, q5, k6, q6, k7, q7, k9, q9, l4, l5, l7, l9, l6, parts, rfl, rfl, w4, w5, w6, w7, w9⟩
end Go.Proofs.Yteomehedmfemiaa
