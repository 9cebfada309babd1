/- Ids of a pool, as walked: the numbers of those that are there, in a row of its own. -/
import Derived.Test.YtmflapajjghpmaaPoolOps
import Derived.Test.YtmflapajjghpmaaElems
namespace Go.Proofs.Ytmflapajjghpmaa
open Go.RowKit

theorem idsFrom_len : ∀ (l : List Int) (i : Nat), (idsFrom l i).length ≤ l.length
  | [], _ => by simp [idsFrom]
  | s :: l, i => by have := idsFrom_len l (i + 1); simp only [idsFrom]; split <;> simp <;> omega

theorem idsFrom_snoc : ∀ (l : List Int) (x : Int) (i : Nat), idsFrom (l ++ [x]) i = idsFrom l i ++ (if 0 ≤ x then [((i + l.length : Nat) : Int) + 1] else [])
  | [], x, i => by simp only [List.nil_append, idsFrom, List.length_nil, Nat.add_zero]
  | s :: l, x, i => by
    simp only [List.cons_append, idsFrom, idsFrom_snoc l x (i + 1), List.length_cons]
    rw [show i + 1 + l.length = i + (l.length + 1) by omega]
    split <;> simp
theorem take_one (l : List Int) (k : Nat) (h : k < l.length) : l.take (k + 1) = l.take k ++ [l.getD k 0] := by
  rw [List.take_add_one, List.getElem?_eq_getElem h]; simp [List.getD, h]

set_option maxHeartbeats 4000000 in
theorem ids_any (b : Nat) (st : PS) (sv fv : Value) (w : World) (h : PoolIs w b st sv fv) (hl : st.sizes.length ≤ 65536) :
    Calls Try.prog 43 #[.pointer (some ⟨b, 0, none⟩)] w fun e w' => ∃ v, e = .returned v ∧ w'.ownsRow w.heap.size 3 1 v (idsP st).length ((idsP st).map (Value.int .i64)) ∧ Below w.heap.size w w' := by
  obtain ⟨c0, _, _, _, c4, _⟩ := pool_cell h
  have hlt := h.lt
  obtain ⟨ao, n, cap, hv, hn⟩ : ∃ ao n cap, sv = .slice ao n cap ∧ n = st.sizes.length := by
    rcases h.own.2 with ⟨rfl, h0⟩ | ⟨g, cap, _, rfl, _⟩
    · exact ⟨none, 0, 0, rfl, h0.symm⟩
    · exact ⟨_, _, cap, rfl, rfl⟩
  have HP := Lib.hid h
  unfold idsP
  by_cases h0 : st.sizes.length = 0
  · have hs : st.sizes = [] := List.eq_nil_of_length_eq_zero h0
    rw [hs]
    rw [h0] at hn
    subst hv hn
    clear hlt h hs h0 hl
    go_enter Try.func43, Try.ntmps43
    go_wp2_with (go_at_call 81; refine (none_made b true _ c0).mono ?_; rintro e w' ⟨rfl, rfl⟩)
    go_rounds 2
    go_ret
    exact ⟨_, rfl, World.ownsRow_nil _ _ _ _, Below.refl _ _⟩
  · obtain ⟨g, cap, rfl⟩ := row_some h.own (by omega)
    have hg : g < w.heap.size := hlt g (.inr (.inl rfl))
    obtain ⟨m, hm⟩ : ∃ m, st.sizes.length = m := ⟨_, rfl⟩
    rw [hm] at c4 hl
    have HM := Lib.hid hm
    clear hlt h hv hn h0 hm
    go_enter Try.func43, Try.ntmps43
    go_wp2_with (go_at_call 81; refine (none_made b true _ c0).mono ?_; rintro e w' ⟨rfl, rfl⟩)
    go_loopw [3, 13] (fun ov iv wr => ∃ k : Nat, k ≤ m ∧ iv = .int .i64 k ∧ wr.ownsRow w.heap.size 3 1 ov (idsFrom (st.sizes.take k) 0).length ((idsFrom (st.sizes.take k) 0).map (Value.int .i64)) ∧ Below w.heap.size w wr) (fun _ iv _ => m - (intOf iv).toNat)
    case atStart => exact ⟨0, Nat.zero_le _, rfl, World.ownsRow_nil _ _ _ _, Below.refl _ _⟩
    case round =>
      obtain ⟨k, hk, rfl, hown, hbel⟩ := hrel
      have hsz := hbel.size
      by_cases hlt : k < m
      · obtain ⟨x, hx⟩ : ∃ x, st.sizes.getD k 0 = x := ⟨_, rfl⟩
        have cx := (hbel.cell (p := ⟨g, k, none⟩) hg).trans (owns_cell HP.out.own k x (by rw [← hx]; exact getD_some _ _ (by rw [HM.out]; exact hlt)))
        have hil := idsFrom_len (st.sizes.take k) 0
        have hil2 : (idsFrom (st.sizes.take k) 0).length ≤ 65536 := by simp at hil; omega
        have HT : Hid (idsFrom (st.sizes.take (k + 1)) 0 = idsFrom (st.sizes.take k) 0 ++ (if 0 ≤ x then [(k : Int) + 1] else [])) := by
          show _ = _
          rw [take_one _ _ (by rw [HM.out]; exact hlt), idsFrom_snoc, hx]
          rw [show 0 + (st.sizes.take k).length = k by simp; have := HM.out; omega]
        have HO := Lib.hid hown
        clear hx hil
        by_cases hx0 : 0 ≤ x
        · go_wp2_with (at_builtin; refine wpList_append_new Try.elemI64 rfl (by decide) wr rfl _ _ rfl rfl HO.out 1 [.int .i64 ((k : Int) + 1)] rfl rfl (by decide) (by simp [Value.oneCell']) (by omega) (by omega) hsz (Nat.le_refl _) hbel ?_; intro v1 w1 ho1 hb1 _ _)
          go_roundw
          case rel => exact ⟨k + 1, by omega, by go_num, by rw [HT.out, if_pos hx0, List.map_append, List.length_append]; exact ho1, hb1⟩
          case measure => simp [intOf]; omega
        · go_wp2_with fail
          go_roundw
          case rel => exact ⟨k + 1, by omega, by go_num, by rw [HT.out, if_neg (by omega), List.append_nil]; exact HO.out, hbel⟩
          case measure => simp [intOf]; omega
      · have HK : Hid (st.sizes.take k = st.sizes) := List.take_of_length_le (by rw [HM.out]; omega)
        rw [HK.out] at hown
        have HO := Lib.hid hown
        clear hown
        go_wp2_with fail
        go_ret
        exact ⟨_, rfl, HO.out, hbel⟩
end Go.Proofs.Ytmflapajjghpmaa
