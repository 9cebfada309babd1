/- Heap: values, in the model's world, of a list that the library has collected. -/
import Derived.Test.YtleafaodppcfdaaSrtList
set_option linter.unusedSimpArgs false
set_option linter.unusedVariables false
set_option maxRecDepth 100000
namespace Go.Proofs.Ytleafaodppcfdaa
open Go.RowKit Go.Sort Go.MapKept

theorem clear_sort : Clear sortO := fun f hf => by
  unfold sortO
  cases hb : Nat.beq f 50 with
  | false => rfl
  | true =>
    have := Nat.eq_of_beq_eq_true hb
    subst this
    exact absurd (by decide) hf
theorem sort_is : sortO 50 = some sortFn := rfl
theorem mixed_ : Try.prog.follows .mixedOrders = true := by kernel_rfl
theorem wf_lt {H : AHeap} (hwf : WF H) {i : Nat} {o : AObj} (h : H.get i = some o) : i < H.next := by
  rcases Nat.lt_or_ge i H.next with h1 | h1
  · exact h1
  · rw [hwf i h1] at h; cases h
/-- a row that is put behind all that is there -/
theorem add_get (H : AHeap) (o : AObj) (i : Nat) : ({ H.add H.next o with next := H.next + 1 } : AHeap).get i = if i = H.next then some o else H.get i := AHeap.get_add H H.next o i
theorem kindAt_of {H : AHeap} (hwf : WF H) {mb cb : Nat} {eb : List MapEntry} (hmb : H.get mb = some (.map eb cb)) {x k : Int} (hk : kindA H mb x = some k) (o : AObj) : KindAt ({ H.add H.next o with next := H.next + 1 } : AHeap).objs mb eb cb H.next x k := by
  unfold kindA at hk
  split at hk
  · rename_i b hl
    split at hk
    · rename_i k' cells T z own hb
      cases hk
      have hlt := wf_lt hwf hb
      refine ⟨b, T, z, own, cells, hlt, ?_, fun H' hH' => ?_⟩
      · have := add_get H o b
        rw [if_neg (by omega), hb] at this
        exact this
      · rw [look_same (hH'.trans hmb.symm)]; exact hl
    · cases hk
  · cases hk

theorem values_world {β : Ren} {H : AHeap} {w0 W : World} (hr : Rel β H w0) (hwf : WF H) {hb mb cb : Nat} {c0 c1 c3 c4 c5 c6 : Value} {T z : Nat} {own : Bool} (hbr : H.get hb = some (.row [c0, c1, .map (some mb), c3, c4, c5, c6] T z own)) {eb : List MapEntry} (hmb : H.get mb = some (.map eb cb))
    {sh : Spot} (hsh : β hb = some sh) {xs ss : List Int} {l : List (Int × Int)} (hk : kindsA H mb (sortI xs) = some l) (hp : ss.Perm xs) (hl : xs.length ≤ 1000000) (hbW : Below w0.heap.size w0 W) {v : Value} (hrow : W.ownsRow w0.heap.size 3 1 v ss.length (ss.map zv)) (hnil : v = .slice none 0 0 ↔ ss = []) :
    Calls Try.prog 28 #[.pointer (some ⟨sh.blk, sh.shift + 0, none⟩), v] W fun e w' => ∃ v' β', e = .returned v' ∧ VR β' (resV H l) v' ∧ Goes β H w0 β' (resH H l) w' ∧ Ren.agree H.next β β' := by
  have hlen : ss.length = xs.length := hp.length_eq
  rw [← sortI_of_perm hp] at hk
  obtain ⟨hl1, hl2⟩ := kindsA_ok H mb _ _ hk
  have hrW := (goes_below hr hbW).rel
  by_cases hs : ss = []
  · subst hs
    obtain rfl := hnil.2 rfl
    have hl0 : l = [] := by rw [hl1]; rfl
    subst hl0
    have hcall := values_nil (O := sortO) (n := 0) (o := H.objs) (nx := H.next) (lg := H.log) clear_sort sort_is (some ⟨hb, 0, none⟩)
    have hsnd := (oCall_sound sortO_sound mixed_ _ _ _ _ _ _ hcall hwf).2 β W [.pointer (some ⟨sh.blk, sh.shift + 0, none⟩), .slice none 0 0] hrW (fun g hg => by cases hg) ⟨rfl, fun j x y hx hy => by
      match j, hx, hy with
      | 0, hx, hy => cases hx; cases hy; exact .ptr hsh
      | 1, hx, hy => cases hx; cases hy; exact .slice0
      | j + 2, hx, _ => simp at hx⟩
    refine hsnd.mono ?_
    rintro e w' ⟨v', β', rfl, h1, h2, h3⟩
    exact ⟨v', β', rfl, h1, (goes_below hr hbW).trans h2, h3⟩
  · rcases hrow.2 with ⟨rfl, _⟩ | ⟨g, cap, cur, rfl, hg, hc, hn, hcap, hcs, htk⟩
    · exact absurd (hnil.1 rfl) hs
    · have G2 := goes_row hr hbW hg hc hcs htk
      have h0 : 0 < ss.length := by
        cases ss with
        | nil => exact absurd rfl hs
        | cons x r => simp
      have hhb := wf_lt hwf hbr
      have hhm := wf_lt hwf hmb
      have a1 := add_get H (.row (ss.map zv) 3 1 true) hb
      rw [if_neg (by omega), hbr] at a1
      have a2 := add_get H (.row (ss.map zv) 3 1 true) mb
      rw [if_neg (by omega), hmb] at a2
      have a3 := add_get H (.row (ss.map zv) 3 1 true) H.next
      rw [if_pos rfl] at a3
      obtain ⟨⟨v3, H3⟩, hcall, j, o', nx', lg', hv3, hj, hj2, hrow3, hkeep⟩ := values_ok (O := sortO) (n := ss.length + 1) (o := ({ H.add H.next (.row (ss.map zv) 3 1 true) with next := H.next + 1 } : AHeap).objs) (nx := H.next + 1) (lg := H.log) (c := 0) (kf := fun x => (kindA H mb x).getD 0) clear_sort sort_is a1 a2 a3 hhb hhm (by omega) h0 (by omega) (by omega) (fun x hx => kindAt_of hwf hmb (hl2 x ((sortI_perm ss).symm.subset hx)) _)
      cases hv3
      have hwf2 : WF ({ H.add H.next (.row (ss.map zv) 3 1 true) with next := H.next + 1 } : AHeap) := fun i hi => by
        have hi : H.next + 1 ≤ i := hi
        rw [add_get, if_neg (by omega)]
        exact hwf i (by omega)
      have hsnd := (oCall_sound sortO_sound mixed_ _ _ _ _ _ _ hcall hwf2).2 _ W [.pointer (some ⟨sh.blk, sh.shift + 0, none⟩), .slice (some ⟨g, 0, none⟩) ss.length cap] G2.rel (fun g hg => by cases hg) ⟨rfl, fun j x y hx hy => by
        match j, hx, hy with
        | 0, hx, hy => cases hx; cases hy; exact .ptr (G2.le _ _ hsh)
        | 1, hx, hy =>
          cases hx; cases hy
          exact VR.slice (s := ⟨g, 0, 1, cap, true⟩) (Ren.put_same ..) hn hcap (.inr ⟨rfl, fun _ => by simp⟩)
        | j + 2, hx, _ => simp at hx⟩
      refine hsnd.mono ?_
      rintro e w' ⟨v', β', rfl, h1, h2, h3⟩
      have G := G2.trans h2
      have hls : (sortI ss).length = l.length := by rw [hl1, List.length_map]
      rw [← hl1] at hrow3
      have hln : l.length = ss.length := by rw [← hls, sortI_length]
      match l, hln with
      | [], hln => rw [← hln] at h0; exact absurd h0 (by decide)
      | p :: l, hln =>
        rw [hls] at h1
        cases h1 with
        | @slice _ _ _ _ c' s hsj hn' hm' hc' =>
          refine ⟨_, β.put H.next s, rfl, .slice (Ren.put_same ..) hn' hm' hc', goes_keepRow hr G (fun i hi => ?_) hrow3 hsj (by omega), fun i hi => Ren.put_other β s (by omega)⟩
          have := hkeep i (by omega) (by omega)
          refine this.trans ?_
          have a4 := add_get H (.row (ss.map zv) 3 1 true) i
          rw [if_neg (by omega)] at a4
          exact a4
end Go.Proofs.Ytleafaodppcfdaa
