/- (*Pool).least, as walked: the least free number is taken out. -/
import Derived.Test.YtmflapajjghpmaaPoolUp
namespace Go.Proofs.Ytmflapajjghpmaa
open Go.RowKit

set_option maxRecDepth 100000 in
set_option maxHeartbeats 4000000 in
theorem lower_any (w : World) (b g n cap k1 k2 i k : Nat) (l : List Int)
    (cp : w.cell? ⟨k1, 0, none⟩ = some (.pointer (some ⟨b, 0, none⟩))) (cl : w.cell? ⟨k2, 0, none⟩ = some (.int .i64 n)) (c5 : w.cell? ⟨b, 5, none⟩ = some (.slice (some ⟨g, 0, none⟩) n cap))
    (hf : w.ownsRow 0 3 1 (.slice (some ⟨g, 0, none⟩) n cap) n (l.map (Value.int .i64))) (hi : i < n ∨ n ≤ k) :
    Calls Try.prog 116 #[.int .i64 i, .int .i64 k, .pointer (some ⟨k2, 0, none⟩), .pointer (some ⟨k1, 0, none⟩)] w fun e w' => e = .returned (.int .i64 (lower l i k)) ∧ ∃ q, w' = w.drewN q := by
  have hl := owns_len hf
  by_cases hkn : k < n
  · have hin : i < n := by omega
    obtain ⟨x, hx⟩ : ∃ x, l.getD k 0 = x := ⟨_, rfl⟩
    obtain ⟨y, hy⟩ : ∃ y, l.getD i 0 = y := ⟨_, rfl⟩
    have ck := owns_cell hf k x (by rw [← hx]; exact getD_some _ _ (by omega))
    have ci := owns_cell hf i y (by rw [← hy]; exact getD_some _ _ (by omega))
    have kl : (k : Int) < (n : Int) := by omega
    have il : (i : Int) < (n : Int) := by omega
    clear hf hi
    by_cases hxy : x < y
    · have HL : Hid (lower l i k = k) := by show _ = _; unfold lower; rw [hx, hy, hl, if_pos ⟨hkn, hxy⟩]
      clear hx hy hl
      go_enter Try.func116, Try.ntmps116
      go_wp2_with fail
      go_quiet (fail)
      go_wp2_with fail
      go_ret
      exact ⟨by rw [HL.out]; rfl, _, rfl⟩
    · have HL : Hid (lower l i k = i) := by show _ = _; unfold lower; rw [hx, hy, if_neg (fun h => hxy h.2)]
      have hd : decide (x < y) = false := decide_eq_false hxy
      clear hx hy hl
      go_enter Try.func116, Try.ntmps116
      go_wp2_with fail
      go_quiet (fail)
      go_wp2_with fail
      go_ret
      exact ⟨by rw [HL.out]; rfl, _, rfl⟩
  · have HL : Hid (lower l i k = i) := by show _ = _; unfold lower; rw [if_neg (fun h => hkn (by rw [← hl]; exact h.1))]
    have hd : decide (k < n) = false := decide_eq_false hkn
    clear hl hf
    go_enter Try.func116, Try.ntmps116
    go_wp2_with fail
    go_quiet (fail)
    go_wp2_with fail
    go_ret
    exact ⟨by rw [HL.out]; rfl, _, rfl⟩

theorem owns_pop {w : World} {base E g cap n : Nat} {k : IntKind} {l : List Int} (h : w.ownsRow base E 1 (.slice (some ⟨g, 0, none⟩) (n + 1) cap) (n + 1) (l.map (Value.int k))) :
    w.ownsRow base E 1 (.slice (some ⟨g, 0, none⟩) n cap) n ((l.take n).map (Value.int k)) := by
  have hl := owns_len h
  have e : l.map (Value.int k) = (l.take n).map (Value.int k) ++ (l.drop n).map (Value.int k) := by rw [← List.map_append, List.take_append_drop]
  rw [e] at h
  exact ownsRow_pop (by simp; omega) h
theorem two_new (w : World) (a b : Obj) : ((w.alloc a).alloc b).heap[w.heap.size]? = some a ∧ ((w.alloc a).alloc b).heap[w.heap.size + 1]? = some b := by
  constructor
  · rw [Below.heap_alloc _ _ _ (by simp)]; exact heap_alloc_new w a
  · have := heap_alloc_new (w.alloc a) b
    simpa using this

set_option maxRecDepth 100000 in
set_option maxHeartbeats 8000000 in
theorem least_any (w : World) (b g n cap : Nat) (c : Array Value) (fl : List Int) (hbg : b ≠ g) (hb : w.heap[b]? = some (.cells c 74 (0, 0))) (hc5 : c[5]? = some (.slice (some ⟨g, 0, none⟩) (n + 1) cap))
    (hf : w.ownsRow 0 3 1 (.slice (some ⟨g, 0, none⟩) (n + 1) cap) (n + 1) (fl.map (Value.int .i64))) (hn : n ≤ 1000000) :
    Calls Try.prog 84 #[.pointer (some ⟨b, 0, none⟩)] w fun e w' => e = .returned (.int .i64 (fl.getD 0 0)) ∧
      w'.heap[b]? = some (.cells (c.setIfInBounds 5 (.slice (some ⟨g, 0, none⟩) n cap)) 74 (0, 0)) ∧
      w'.ownsRow 0 3 1 (.slice (some ⟨g, 0, none⟩) n cap) n ((heapPop fl).map (Value.int .i64)) ∧ Touch (fun k => k = b ∨ k = g) w w' := by
  have hfl := owns_len hf
  have hbs : b < w.heap.size := (Array.getElem?_eq_some_iff.1 hb).1
  have hgs : g < w.heap.size := (hf.lt g rfl).2
  obtain ⟨x0, hx0⟩ : ∃ x, fl.getD 0 0 = x := ⟨_, rfl⟩
  have c0 := owns_cell hf 0 x0 (by rw [← hx0]; exact getD_some _ _ (by omega))
  have f0 := hf.frozenAt 0
  have c5 := (known_cell hb 5).trans hc5
  have f5 := known_free hb 5
  rw [hx0]
  have HX : Hid (fl.getD 0 0 = x0) := hx0
  clear hx0
  go_enter Try.func84, Try.ntmps84
  go_wp2_with fail
  have c5' : (w.alloc (.cells #[.pointer (some ⟨b, 0, none⟩)] 24)).cell? ⟨b, 5, none⟩ = some (.slice (some ⟨g, 0, none⟩) (n + 1) cap) := by rw [World.cell?_alloc_past _ _ _ hbs]; exact c5
  have c0' : (w.alloc (.cells #[.pointer (some ⟨b, 0, none⟩)] 24)).cell? ⟨g, 0, none⟩ = some (.int .i64 x0) := by rw [World.cell?_alloc_past _ _ _ hgs]; exact c0
  go_region
  go_wp2_with fail
  generalize hw1 : World.drew _ = w1
  as_aux_lemma =>
    have t1 : Touch (fun _ => False) w w1 := by rw [← hw1]; exact (((Touch.refl _ w).alloc _).alloc _).drew
    have hA : w1.heap[w.heap.size]? = some (.cells #[.pointer (some ⟨b, 0, none⟩)] 24 (0, 0)) := by rw [← hw1]; exact (two_new w _ _).1
    have hL : w1.heap[w.heap.size + 1]? = some (.cells #[.int .i64 n] 3 (0, 0)) := by rw [← hw1]; exact (two_new w _ _).2
    have hb1 := t1.obj hb (fun h => h)
    have hf1 := t1.row hf (fun _ _ h => h)
    clear hw1 c5' c0' c5 c0 f0 f5
    obtain ⟨k1, hk1⟩ : ∃ k, w.heap.size = k := ⟨_, rfl⟩
    rw [hk1] at hA hL ⊢
    have a1 := known_cell hA 0
    have a2 := known_cell hL 0
    have a3 := (known_cell hb1 5).trans hc5
    have a4 := known_free hb1 5
    have hl1 : fl.length - 1 = n := by omega
    obtain ⟨xl, hxl⟩ : ∃ x, fl.getD n 0 = x := ⟨_, rfl⟩
    have a5 := owns_cell hf1 n xl (by rw [← hxl]; exact getD_some _ _ (by omega))
    have a6 := owns_cell hf1 0 x0 (by rw [← HX.out]; exact getD_some _ _ (by omega))
    have a7 := hf1.frozenAt 0
    simp only [List.getElem?_toArray, List.getElem?_cons_zero] at a1 a2
    have HK := Lib.hid hk1
    have HB := Lib.hid hb1
    have HF := Lib.hid hf1
    have HA := Lib.hid hA
    have HL := Lib.hid hL
    have HXL := Lib.hid hxl
    have HL1 := Lib.hid hl1
    have HFL := Lib.hid hfl
    have HT := Lib.hid t1
    have HC := Lib.hid hc5
    have HB0 := Lib.hid hb
    have HF0 := Lib.hid hf
    clear hk1 hb1 hf1 hA hL hxl hl1 hfl t1 hc5 hb hf
    go_region
    go_wp2_with fail
    generalize hw2 : World.drew _ = w2
    as_aux_lemma =>
      have t2 : Touch (fun k => k = b ∨ k = g) w w2 := by rw [← hw2]; exact ((HT.out.mono (fun _ h => h.elim)).setCell (p := ⟨g, 0, none⟩) (.inl (.inr rfl)) (.int .i64 xl)).drew
      have hb2 : w2.heap[b]? = some (.cells c 74 (0, 0)) := by rw [← hw2]; exact known_other HB.out ⟨g, 0, none⟩ (fun e => hbg e.symm) _
      have hf2 : w2.ownsRow 0 3 1 (.slice (some ⟨g, 0, none⟩) (n + 1) cap) (n + 1) ((fl.set 0 xl).map (Value.int .i64)) := by rw [← hw2]; exact owns_set HF.out 0 xl
      have hA2 : w2.heap[k1]? = some (.cells #[.pointer (some ⟨b, 0, none⟩)] 24 (0, 0)) := by rw [← hw2]; exact known_other HA.out ⟨g, 0, none⟩ (show g ≠ k1 by have := HK.out; omega) _
      have hL2 : w2.heap[k1 + 1]? = some (.cells #[.int .i64 n] 3 (0, 0)) := by rw [← hw2]; exact known_other HL.out ⟨g, 0, none⟩ (show g ≠ k1 + 1 by have := HK.out; omega) _
      clear hw2 a1 a2 a3 a4 a5 a6 a7
      have a1 := known_cell hA2 0
      have a2 := known_cell hL2 0
      have a3 := (known_cell hb2 5).trans HC.out
      have a4 := known_free hb2 5
      simp only [List.getElem?_toArray, List.getElem?_cons_zero] at a1 a2
      have nc : n ≤ cap := by
        obtain ⟨g', cap', hv, _, _, hh, _⟩ := owns_at HF.out (by omega)
        simp at hv; omega
      have HB2 := Lib.hid hb2
      have HF2 := Lib.hid hf2
      have HA2 := Lib.hid hA2
      have HL2 := Lib.hid hL2
      have HT2 := Lib.hid t2
      clear hb2 hf2 hA2 hL2 t2
      go_region
      go_wp2_with fail
      generalize hw3 : World.drew _ = w3
      as_aux_lemma =>
        have t3 : Touch (fun k => k = b ∨ k = g) w w3 := by rw [← hw3]; exact (HT2.out.setCell (p := ⟨b, 5, none⟩) (.inl (.inl rfl)) _).drew
        have hb3 : w3.heap[b]? = some (.cells (c.setIfInBounds 5 (.slice (some ⟨g, 0, none⟩) n cap)) 74 (0, 0)) := by rw [← hw3]; exact known_set HB2.out 5 _
        have hf3 : w3.ownsRow 0 3 1 (.slice (some ⟨g, 0, none⟩) n cap) n (((fl.set 0 xl).take n).map (Value.int .i64)) := by
          rw [← hw3]
          refine owns_pop (Touch.row (S := fun k => k = b) ?_ HF2.out ?_)
          · exact ((Touch.refl (fun k => k = b) w2).setCell (p := ⟨b, 5, none⟩) (.inl rfl) _).drew
          · intro g' hg' e; simp [Value.ownBlock] at hg'; omega
        have hA3 : w3.heap[k1]? = some (.cells #[.pointer (some ⟨b, 0, none⟩)] 24 (0, 0)) := by rw [← hw3]; exact known_other HA2.out ⟨b, 5, none⟩ (show b ≠ k1 by have := HK.out; omega) _
        have hL3 : w3.heap[k1 + 1]? = some (.cells #[.int .i64 n] 3 (0, 0)) := by rw [← hw3]; exact known_other HL2.out ⟨b, 5, none⟩ (show b ≠ k1 + 1 by have := HK.out; omega) _
        clear hw3 a1 a2 a3 a4
        have a1 := known_cell hA3 0
        have a2 := known_cell hL3 0
        have a3 : w3.cell? ⟨b, 5, none⟩ = some (.slice (some ⟨g, 0, none⟩) n cap) := by
          rw [known_cell hb3 5, Array.getElem?_setIfInBounds_self_of_lt]
          exact (Array.getElem?_eq_some_iff.1 HC.out).1
        simp only [List.getElem?_toArray, List.getElem?_cons_zero] at a1 a2
        have hz : k1 + 1 < w3.heap.size := (Array.getElem?_eq_some_iff.1 hL3).1
        have HB3 := Lib.hid hb3
        have HF3 := Lib.hid hf3
        have HT3 := Lib.hid t3
        have hpop : heapPop fl = siftDown ((fl.set 0 xl).take n) n 0 := by unfold heapPop; rw [HL1.out, HXL.out]
        have HP := Lib.hid hpop
        clear hb3 hA3 hL3 t3 hpop
        have hbs3 : b < w3.heap.size := by have := HK.out; omega
        have HKK := HK.out
        go_loopg [6] (n + 1) (fun gk iv wr => ∃ (i f : Nat) (fk : List Int), iv = .int .i64 i ∧ (i < n ∨ (n = 0 ∧ i = 0)) ∧ n ≤ i + f ∧ n + 1 ≤ i + gk ∧ fk.length = n ∧ Hid (siftDown ((fl.set 0 xl).take n) n 0 = siftDown fk f i) ∧ wr.ownsRow 0 3 1 (.slice (some ⟨g, 0, none⟩) n cap) n (fk.map (Value.int .i64)) ∧ Touch (· = g) w3 wr)
        case atStart => exact ⟨0, n, _, rfl, by omega, by omega, by omega, by simp; have := HFL.out; omega, rfl, hf3, Touch.refl _ _⟩
        case round =>
          clear hf3
          obtain ⟨i, f, fk, rfl, hin, hif, hig, hfk, HE, hown, ht⟩ := hrel
          have c1 := (ht.cell (p := ⟨k1, 0, none⟩) (show k1 < _ by omega) (show k1 ≠ g by omega)).trans a1
          have c2 := (ht.cell (p := ⟨k1 + 1, 0, none⟩) (show k1 + 1 < _ by omega) (show k1 + 1 ≠ g by omega)).trans a2
          have c3 := (ht.cell (p := ⟨b, 5, none⟩) hbs3 hbg).trans a3
          clear a1 a2 a3
          have HC1 := Lib.hid c1
          have HC2 := Lib.hid c2
          have HC3 := Lib.hid c3
          have HO := Lib.hid hown
          have HTT := Lib.hid ht
          have hc1 := lower_any wr b g n cap k1 (k1 + 1) i (2 * i + 1) fk c1 c2 c3 hown (by omega)
          have hlc := lower_cases fk i (2 * i + 1)
          obtain ⟨m, hm⟩ : ∃ m, lower fk i (2 * i + 1) = m := ⟨_, rfl⟩
          have hc2 := fun q => lower_any (wr.drewN q) b g n cap k1 (k1 + 1) m (2 * i + 2) fk c1 c2 c3 hown (by omega)
          have hlc2 := low_cases fk i
          rw [hm] at hc1 hlc2
          obtain ⟨k, hk⟩ : ∃ k, lower fk m (2 * i + 2) = k := ⟨_, rfl⟩
          rw [hk] at hc2 hlc2
          have H1 := Lib.hid hc1
          have H2 := Lib.hid hc2
          have HM : Hid (lower fk (lower fk i (2 * i + 1)) (2 * i + 2) = k) := by show _ = _; rw [hm, hk]
          clear hc1 hc2 hm hk hown ht c1 c2 c3
          have e1 : 2 * (i : Int) + 1 = ((2 * i + 1 : Nat) : Int) := by omega
          have e2 : 2 * (i : Int) + 2 = ((2 * i + 2 : Nat) : Int) := by omega
          have E1 := Lib.hid e1
          have E2 := Lib.hid e2
          clear e1 e2
          go_wp2_with fail
          rw [E1.out]
          refine (H1.out).mono ?_
          rintro e w4 ⟨rfl, q1, rfl⟩
          go_wp2_with fail
          rw [E2.out]
          refine (H2.out _).mono ?_
          rintro e w5 ⟨rfl, q2, rfl⟩
          by_cases hki : k = i
          · have hkb : ((k : Int) == (i : Int)) = true := beq_iff_eq.2 (by omega)
            go_wp2_with fail
            go_ret
            have hend : siftDown ((fl.set 0 xl).take n) n 0 = fk := by
              rw [HE.out]
              cases f with
              | zero => rfl
              | succ f => simp only [siftDown]; rw [HM.out, if_pos hki]
            refine ⟨rfl, (HTT.out.drewN _).obj HB3.out hbg, ?_, (HT3.out.trans HTT.out (fun i hi => .inl (.inr hi))).drewN _⟩
            rw [HP.out, hend]; exact HO.out
          · have hkb : ((k : Int) == (i : Int)) = false := beq_eq_false_iff_ne.2 (by omega)
            have hkn : k < n ∧ i < k := by rcases hlc2 with h | ⟨h, h'⟩ | ⟨h, h'⟩ <;> omega
            have hin' : i < n := by omega
            obtain ⟨x, hx⟩ : ∃ x, fk.getD i 0 = x := ⟨_, rfl⟩
            obtain ⟨y, hy⟩ : ∃ y, fk.getD k 0 = y := ⟨_, rfl⟩
            have HX2 : Hid (fk.getD i 0 = x ∧ fk.getD k 0 = y) := ⟨hx, hy⟩
            clear hx hy hlc hlc2
            go_wp2_with fail
            generalize hwq : World.drewN _ _ = wq
            have hownq : wq.ownsRow 0 3 1 (.slice (some ⟨g, 0, none⟩) n cap) n (fk.map (Value.int .i64)) := by rw [← hwq]; exact HO.out
            have tq : Touch (· = g) w3 wq := by rw [← hwq]; exact HTT.out.drewN _
            have c1q : wq.cell? ⟨k1, 0, none⟩ = some (.pointer (some ⟨b, 0, none⟩)) := by rw [← hwq]; exact HC1.out
            have c5q : wq.cell? ⟨b, 5, none⟩ = some (.slice (some ⟨g, 0, none⟩) n cap) := by rw [← hwq]; exact HC3.out
            have ciq := owns_cell hownq i x (by rw [← HX2.out.1]; exact getD_some _ _ (by omega))
            have ckq := owns_cell hownq k y (by rw [← HX2.out.2]; exact getD_some _ _ (by omega))
            have fiq := hownq.frozenAt i
            have fkq := hownq.frozenAt k
            have HOq := Lib.hid hownq
            have HTq := Lib.hid tq
            clear hwq hownq tq
            have HN : Hid ((i < n ∨ n = 0 ∧ i = 0) ∧ n ≤ i + f ∧ n + 1 ≤ i + gk ∧ fk.length = n ∧ ¬ k = i ∧ (k < n ∧ i < k) ∧ i < n) := ⟨hin, hif, hig, hfk, hki, hkn, hin'⟩
            have hik : ¬ i = k := by omega
            have hik2 : ¬ k = i := by omega
            have kg1 : ¬ k1 = g := by omega
            have kg2 : ¬ g = k1 := by omega
            have bg2 : ¬ g = b := by omega
            have bg1 : ¬ b = g := by omega
            have il : (i : Int) < (n : Int) := by omega
            have kl : (k : Int) < (n : Int) := by omega
            have HBG := Lib.hid hbg
            clear hin hif hig hfk hki hkn hin' hkb hz hbs3 HKK nc hn hbs hgs hbg
            as_aux_lemma =>
              go_region
              go_wp2_with fail
              go_roundg (n - i)
              case measure => have := HN.out; omega
              case rel =>
                obtain ⟨hin, hif, hig, hfk, hki, hkn, hin'⟩ := HN.out
                obtain ⟨f, rfl⟩ : ∃ q, f = q + 1 := ⟨f - 1, by omega⟩
                have hs : swp fk i k = (fk.set i y).set k x := by unfold swp; rw [HX2.out.1, HX2.out.2]
                refine ⟨k, f, swp fk i k, by go_num, by omega, by omega, by omega, by rw [swp_len]; exact hfk, ?_, ?_, ?_⟩
                · show _ = _
                  rw [HE.out]
                  simp only [siftDown]
                  rw [HM.out, if_neg hki]
                · rw [hs]; exact owns_set (owns_set HOq.out i y) k x
                · exact ((HTq.out.setCell (p := ⟨g, i, none⟩) (.inl rfl) (.int .i64 y)).setCell (p := ⟨g, k, none⟩) (.inl rfl) (.int .i64 x)).drew
end Go.Proofs.Ytmflapajjghpmaa
