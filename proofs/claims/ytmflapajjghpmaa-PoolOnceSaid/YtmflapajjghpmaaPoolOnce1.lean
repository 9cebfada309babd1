/- PoolOnce: the law, as walked. -/
import Derived.Test.YtmflapajjghpmaaPoolOnce0
import Derived.Test.YtmflapajjghpmaaRowGuest
import Derived.Deep.RegionWith
namespace Go.Proofs.Ytmflapajjghpmaa
open Go.RowKit

def pickP (x n : Int) : Int := if x.tmod n < 0 then x.tmod n + n else x.tmod n
theorem pickP_in (x : Int) {n : Int} (hn : 0 < n) : 0 ≤ pickP x n ∧ pickP x n < n := by
  unfold pickP
  have h1 := Int.tmod_lt_of_pos x hn
  have h2 : -n < x.tmod n := by
    have := Int.tmod_lt_of_pos (-x) hn
    rw [Int.neg_tmod] at this; omega
  split <;> omega
set_option maxHeartbeats 1000000 in
theorem pickLow_any (x n : Int) (hn : 0 < n) (hn2 : n < 1000000000) (w : World) : Calls Try.prog 15 #[.int .i64 x, .int .i64 n] w fun e w' => e = .returned (.int .i64 (pickP x n)) ∧ w = w' := by
  have k1 : ¬ n < 1 := by omega
  have k0 : ¬ n = 0 := by omega
  have h1 := Int.tmod_lt_of_pos x hn
  have h2 : -n < x.tmod n := by
    have := Int.tmod_lt_of_pos (-x) hn
    rw [Int.neg_tmod] at this; omega
  unfold pickP
  obtain ⟨r, hr⟩ : ∃ r, x.tmod n = r := ⟨_, rfl⟩
  rw [hr] at h1 h2 ⊢
  by_cases h : r < 0
  · rw [if_pos h]
    go_enter Try.func15, Try.ntmps15
    go_wp2
    go_ret
    exact ⟨rfl, rfl⟩
  · rw [if_neg h]
    go_enter Try.func15, Try.ntmps15
    go_wp2
    go_ret
    exact ⟨rfl, rfl⟩
theorem PoolOk.with_row {B b : Nat} {w0 w : World} {st : PS} (h : PoolOk B w0 w b st) (L : List Int) : PoolWith B w.heap.size w0 (w.alloc (.cells ((L.map (Value.int .i64)).toArray) 3)) b st L := by
  obtain ⟨sv, fv, h1, h2⟩ := h.ex
  have hb : Below w.heap.size w (w.alloc (.cells ((L.map (Value.int .i64)).toArray) 3)) := (Below.refl _ _).alloc (Nat.le_refl _) _
  refine ⟨⟨sv, fv, h1.same ((Touch.refl _ w).below hb), fun k hk => ⟨h2 k hk, ?_⟩⟩, h.good, h.below.trans (hb.mono h.size), Nat.le_trans h.size hb.size, h.size, heap_alloc_new w _⟩
  have := h1.lt k hk
  omega
theorem addr_add (b f i : Nat) : (⟨b, f, none⟩ : Addr).add i = ⟨b, f + i, none⟩ := by
  unfold Addr.add
  by_cases h : i = 0 <;> simp [h]
theorem fill_step {k : Nat} (hk : k < 202) : (List.replicate k (-1 : Int) ++ List.replicate (202 - k) 0).set k (-1) = List.replicate (k + 1) (-1) ++ List.replicate (202 - (k + 1)) 0 := by
  obtain ⟨q, hq⟩ : ∃ q, 202 - k = q + 1 := ⟨201 - k, by omega⟩
  rw [List.set_append_right _ _ (by simp), hq, show 202 - (k + 1) = q from by omega]
  simp only [List.length_replicate, Nat.sub_self, List.replicate_succ, List.set_cons_zero]
  rw [← List.replicate_succ, List.replicate_succ', List.append_assoc]; rfl
def z202 : List Int := List.replicate 202 0
set_option maxRecDepth 100000 in
set_option maxHeartbeats 2000000 in
theorem poolOnce_any (a0 : Int) (a1 : Option Addr) (len1 cap1 : Nat) (z1 : List Int) (w : World) (w1 : GuestRow w a1 len1 cap1 z1) :
    Calls Try.prog 3 #[.int .i64 a0, .slice a1 len1 cap1] w fun e w' => e = .returned (.bool true) ∧ Below w.heap.size w w' := by
  have HP := Lib.hid (fun W => pickLow_any a0 301 (by decide) (by decide) W)
  have hbr := pickP_in a0 (show (0 : Int) < 301 by decide)
  obtain ⟨bd, hbd⟩ : ∃ bd, pickP a0 301 = bd := ⟨_, rfl⟩
  rw [hbd] at HP hbr
  have hb1 : bd ≤ 1073741824 := by omega
  have hmk : ∀ w, (Instr.makeSlice 22 (.int .i64 202) (.int .i64 202)).run Try.prog w = .ok (.slice (some ⟨w.heap.size, 0, none⟩) 202 202) (w.alloc (.cells ((z202.map (Value.int .i64)).toArray) 3)) := fun _ => by kernel_rfl
  clear hbd
  have HG := Lib.hid w1
  clear w1
  go_enter Try.func3, Try.ntmps3
  go_wp2_with (first
    | (go_at_call 15; refine (HP.out _).mono ?_; rintro e w' ⟨rfl, rfl⟩)
    | (go_at_call 16; refine (new_ok bd _ hbr.1 hb1).mono ?_; rintro e w' ⟨rfl, h0⟩))
  have hp0 := h0.with_row z202
  generalize hwA : World.alloc _ _ = wA at hp0
  obtain ⟨B, hB⟩ : ∃ k, w.heap.size = k := ⟨_, rfl⟩
  obtain ⟨g, hg⟩ : ∃ k, w'.heap.size = k := ⟨_, rfl⟩
  rw [hB] at hp0
  rw [hg] at hp0
  rw [hg, hB]
  have HB := Lib.hid hB
  clear hmk h0 hwA hg hB
  have HP0 := Lib.hid hp0
  clear hp0
  go_loopw [8] (fun iv wr => ∃ k : Nat, k ≤ 202 ∧ iv = .int .i64 k ∧ PoolWith B g w wr B ⟨bd, 0, 0, [], []⟩ (List.replicate k (-1) ++ List.replicate (202 - k) 0)) (fun iv _ => 202 - (intOf iv).toNat)
  case atStart => exact ⟨0, Nat.zero_le _, rfl, HP0.out⟩
  case round =>
    obtain ⟨k, hk, rfl, hok⟩ := hrel
    by_cases hlt : k < 202
    · have kl : (k : Int) < 202 := by omega
      have hL : (List.replicate k (-1 : Int) ++ List.replicate (202 - k) 0).length = 202 := by simp; omega
      have ck := hok.at (i := k) (by omega)
      have fk := known_free hok.row k
      have hw := hok.write k (-1)
      rw [fill_step hlt] at hw
      have HW := Lib.hid hw
      have HK : Hid (k < 202) := hlt
      clear hw hL hlt hk hok
      go_wp2_with fail
      go_roundw
      case rel => exact ⟨k + 1, HK.out, by go_num, HW.out⟩
      case measure =>
        have := HK.out
        simp [intOf]; omega
    · have hk2 : k = 202 := by omega
      rw [hk2] at hok
      have kl : ¬ (k : Int) < 202 := by omega
      have hl0 : List.replicate 202 (-1 : Int) ++ List.replicate (202 - 202) 0 = locOf [] := by
        unfold locOf; rw [Nat.sub_self, List.replicate_zero, List.append_nil]; rfl
      rw [hl0] at hok
      have HOK := Lib.hid hok
      clear hk2 hlt hk hok hl0
      go_wp2_with fail
      go_loopw [9, 10] (fun uv iv wr => ∃ (i : Nat) (st : PS), i ≤ 200 ∧ iv = .int .i64 i ∧ uv = .int .i64 st.used ∧ st.sizes.length ≤ i ∧ st.bound = bd ∧ PoolWith B g w wr B st (locOf st.sizes)) (fun _ iv _ => 200 - (intOf iv).toNat)
      case atStart => exact ⟨0, _, Nat.zero_le _, rfl, rfl, Nat.le_refl _, rfl, HOK.out⟩
      case round =>
        obtain ⟨i, st, hi, rfl, rfl, hsl, hbd, hok⟩ := hrel
        by_cases h1 : i < len1
        · by_cases h2 : i < 200
          · obtain ⟨gb, off, z, rfl, cz⟩ : ∃ gb off z, a1 = some ⟨gb, off, none⟩ ∧ wr.cell? ⟨gb, off + i, none⟩ = some (.int .i64 z) := by
              rcases HG.out with ⟨_, h, _⟩ | ⟨x, rfl, h3, h4, h5, h6, _, h7, h8⟩
              · omega
              · obtain ⟨gb, off, sp⟩ := x
                simp only at h7
                subst h7
                refine ⟨gb, off, z1.getD i 0, rfl, ?_⟩
                have := h6 i (by omega)
                rw [addr_add] at this
                rw [HB.out] at h8
                exact (hok.below.cell (p := ⟨gb, off + i, none⟩) h8).trans this
            have hpr := pickP_in z (show (0 : Int) < 1000003 by decide)
            have HPz := Lib.hid (fun W => pickLow_any z 1000003 (by decide) (by decide) W)
            obtain ⟨nn, hnn⟩ : ∃ nn : Nat, pickP z 1000003 = (nn : Int) := ⟨(pickP z 1000003).toNat, by omega⟩
            rw [hnn] at HPz hpr
            have hnl : nn < 1000003 := by omega
            obtain ⟨k1, kk, hkk, hk1, hkl⟩ : ∃ k1 kk : Nat, 1 + (nn : Int) / 5 % 40 = (k1 : Int) ∧ k1 = kk + 1 ∧ kk < 40 := ⟨nn / 5 % 40 + 1, nn / 5 % 40, by omega, rfl, Nat.mod_lt _ (by decide)⟩
            have hkz : (k1 : Int) < 202 := by omega
            have HK1 : Hid ((k1 : Int) = (kk : Int) + 1) := by show _ = _; omega
            obtain ⟨ss, hss, hsl30⟩ : ∃ ss : Nat, (nn : Int) / 200 % 30 = (ss : Int) ∧ ss < 30 := ⟨nn / 200 % 30, rfl, Nat.mod_lt _ (by decide)⟩
            have il : (i : Int) < (len1 : Int) := by omega
            have i2 : (i : Int) < 200 := by omega
            have HL := locOf_len (l := st.sizes) (by omega)
            have ck := hok.at (i := k1) (by omega)
            obtain ⟨v, hv⟩ : ∃ v, (locOf st.sizes).getD k1 0 = v := ⟨_, rfl⟩
            rw [hv] at ck
            have HI : Hid (i < 200 ∧ i < len1 ∧ st.sizes.length ≤ i ∧ kk < 40 ∧ ss < 30 ∧ st.bound = bd ∧ (locOf st.sizes).length = 202 ∧ (locOf st.sizes).getD (kk + 1) 0 = v) := ⟨h2, h1, hsl, hkl, hsl30, hbd, HL, by rw [← hk1]; exact hv⟩
            have HKK : Hid (k1 = kk + 1) := hk1
            have HOK2 := Lib.hid hok
            have hused := hok.good.used0
            have hub : st.used ≤ bd := by have := hok.good.le; omega
            have hbd0 : st.bound = bd := hbd
            have HBD := Lib.hid hbd0
            clear hbd0
            clear hpr hnn h1 h2 hsl hkl hsl30 hbd HL hv hi hk1
            by_cases c0 : (nn : Int) % 5 = 0
            · by_cases hv0 : 0 ≤ v
              · obtain ⟨st', e1, e2, e3, e4, e5⟩ := give_loc (st := st) (by have := HI.out; omega) (k := kk) (by have := HI.out; omega) (by rw [HI.out.2.2.2.2.2.2.2]; exact hv0)
                have GE : Hid (giveP st (k1 : Int) = (st', 0)) := by
                  show _ = _
                  rw [HK1.out]; exact e1
                have HE : Hid (locOf st'.sizes = (locOf st.sizes).set (kk + 1) (-1) ∧ st'.used = st.used - v ∧ st'.bound = st.bound ∧ st'.sizes.length = st.sizes.length) := ⟨e2, by rw [e3, HI.out.2.2.2.2.2.2.2], e4, e5⟩
                clear e1 e2 e3 e4 e5 hok
                go_wp2_with (go_at_call 15; refine (HPz.out _).mono ?_; rintro e w2 ⟨rfl, rfl⟩)
                go_region_with (go_at_call 17; refine (give_w (B := B) (g := g) (w0 := w) (st := st) (L := locOf st.sizes) ?_ (k1 : Int)).mono ?_; exact HOK2.out.later ⟨rfl, rfl, rfl, Nat.le_refl _, fun _ _ => rfl⟩; rw [GE.out]; rintro e w3 ⟨rfl, hok3⟩; have ck3 := hok3.at (i := k1) (by have := HI.out; have := HKK.out; omega); rw [show (locOf st.sizes).getD k1 0 = v from by rw [HKK.out]; exact HI.out.2.2.2.2.2.2.2] at ck3)
                all_goals
                  have fk3 := known_free hok3.row k1
                  have hw3 := hok3.write k1 (-1)
                  rw [show (locOf st.sizes).set k1 (-1) = locOf st'.sizes from by rw [HKK.out]; exact HE.out.1.symm] at hw3
                  have HW3 := Lib.hid hw3
                  have he : st'.used = st.used - v := HE.out.2.1
                  have hge : 0 ≤ st.used - v := by have := HW3.out.good.used0; omega
                  have hle : st.used - v ≤ bd := by
                    have h4 := HW3.out.good.le
                    have h5 := HE.out.2.2.1
                    have h6 := HBD.out
                    omega
                  clear hok3 hw3
                  go_wp2_with (go_at_call 20; refine (used_w (B := B) (g := g) (w0 := w) (st := st') (L := locOf st'.sizes) ?_).mono ?_; exact HW3.out; rintro e w4 ⟨rfl, rfl⟩)
                  go_roundw
                  case rel => exact ⟨i + 1, st', by have := HI.out.1; omega, by go_num, by rw [he], by have := HI.out; have := HE.out.2.2.2; omega, HE.out.2.2.1.trans HBD.out, HW3.out⟩
                  case measure =>
                    have := HI.out.1
                    simp [intOf]; omega
              · have GE : Hid (giveP st (k1 : Int) = (st, 2)) := by
                  show _ = _
                  rw [HK1.out]; exact give_none (by have := HI.out; omega) (by have := HI.out; omega) (by rw [HI.out.2.2.2.2.2.2.2]; exact hv0)
                clear hok
                go_wp2_with (go_at_call 15; refine (HPz.out _).mono ?_; rintro e w2 ⟨rfl, rfl⟩)
                go_region_with (go_at_call 17; refine (give_w (B := B) (g := g) (w0 := w) (st := st) (L := locOf st.sizes) ?_ (k1 : Int)).mono ?_; exact HOK2.out.later ⟨rfl, rfl, rfl, Nat.le_refl _, fun _ _ => rfl⟩; rw [GE.out]; rintro e w3 ⟨rfl, hok3⟩; have ck3 := hok3.at (i := k1) (by have := HI.out; have := HKK.out; omega); rw [show (locOf st.sizes).getD k1 0 = v from by rw [HKK.out]; exact HI.out.2.2.2.2.2.2.2] at ck3)
                all_goals
                  have HW3 := Lib.hid hok3
                  clear hok3
                  go_wp2_with (go_at_call 20; refine (used_w (B := B) (g := g) (w0 := w) (st := st) (L := locOf st.sizes) ?_).mono ?_; exact HW3.out; rintro e w4 ⟨rfl, rfl⟩)
                  go_roundw
                  case rel => exact ⟨i + 1, st, by have := HI.out.1; omega, by go_num, rfl, by have := HI.out; omega, HBD.out, HW3.out⟩
                  case measure =>
                    have := HI.out.1
                    simp [intOf]; omega
            · by_cases c1 : (nn : Int) % 5 = 1
              · have hs30 : (ss : Int) < 30 := by have := HI.out; omega
                by_cases hv0 : 0 ≤ v
                · have hvu : v ≤ st.used := by
                    have := loc_le HOK2.out.good (k := kk) (by have := HI.out; omega) (by rw [HI.out.2.2.2.2.2.2.2]; exact hv0)
                    rw [HI.out.2.2.2.2.2.2.2] at this
                    exact this
                  have hr := resize_loc (st := st) (by have := HI.out; omega) (k := kk) (by have := HI.out; omega) (by rw [HI.out.2.2.2.2.2.2.2]; exact hv0) (s := (ss : Int)) (by omega)
                  rw [HI.out.2.2.2.2.2.2.2, HBD.out] at hr
                  rcases hr with ⟨kfit, st', e1, e2, e3, e4, e5⟩ | ⟨kno, e1⟩
                  · have RE : Hid (resizeP st (k1 : Int) (ss : Int) = (st', 0)) := by
                      show _ = _
                      rw [HK1.out]; exact e1
                    have HE : Hid (locOf st'.sizes = (locOf st.sizes).set (kk + 1) (ss : Int) ∧ st'.used = st.used - v + (ss : Int) ∧ st'.bound = bd ∧ st'.sizes.length = st.sizes.length) := ⟨e2, e3, e4, e5⟩
                    have he := e3
                    clear e1 e2 e3 e4 e5 hok
                    go_wp2_with (first
                      | (go_at_call 15; refine (HPz.out _).mono ?_; rintro e w2 ⟨rfl, rfl⟩)
                      | (go_at_call 18; refine (resize_w (B := B) (g := g) (w0 := w) (st := st) (L := locOf st.sizes) ?_ (k1 : Int) (ss : Int)).mono ?_; exact HOK2.out; rw [RE.out]; rintro e w3 ⟨rfl, hok3⟩; have ck3 := hok3.at (i := k1) (by have := HI.out; have := HKK.out; omega); rw [show (locOf st.sizes).getD k1 0 = v from by rw [HKK.out]; exact HI.out.2.2.2.2.2.2.2] at ck3; have fk3 := known_free hok3.row k1; have hw3 := hok3.write k1 (ss : Int); rw [show (locOf st.sizes).set k1 (ss : Int) = locOf st'.sizes from by rw [HKK.out]; exact HE.out.1.symm] at hw3; have HW3 := Lib.hid hw3; clear hok3 hw3)
                      | (go_at_call 20; refine (used_w (B := B) (g := g) (w0 := w) (st := st') (L := locOf st'.sizes) ?_).mono ?_; exact HW3.out; rintro e w4 ⟨rfl, rfl⟩))
                    go_roundw
                    case rel => exact ⟨i + 1, st', by have := HI.out.1; omega, by go_num, by rw [he], by have := HI.out; have := HE.out.2.2.2; omega, HE.out.2.2.1, HW3.out⟩
                    case measure =>
                      have := HI.out.1
                      simp [intOf]; omega
                  · have RE : Hid (resizeP st (k1 : Int) (ss : Int) = (st, 5)) := by
                      show _ = _
                      rw [HK1.out]; exact e1
                    clear e1 hok
                    go_wp2_with (first
                      | (go_at_call 15; refine (HPz.out _).mono ?_; rintro e w2 ⟨rfl, rfl⟩)
                      | (go_at_call 18; refine (resize_w (B := B) (g := g) (w0 := w) (st := st) (L := locOf st.sizes) ?_ (k1 : Int) (ss : Int)).mono ?_; exact HOK2.out; rw [RE.out]; rintro e w3 ⟨rfl, hok3⟩; have ck3 := hok3.at (i := k1) (by have := HI.out; have := HKK.out; omega); rw [show (locOf st.sizes).getD k1 0 = v from by rw [HKK.out]; exact HI.out.2.2.2.2.2.2.2] at ck3; have HW3 := Lib.hid hok3; clear hok3)
                      | (go_at_call 20; refine (used_w (B := B) (g := g) (w0 := w) (st := st) (L := locOf st.sizes) ?_).mono ?_; exact HW3.out; rintro e w4 ⟨rfl, rfl⟩))
                    go_roundw
                    case rel => exact ⟨i + 1, st, by have := HI.out.1; omega, by go_num, rfl, by have := HI.out; omega, HBD.out, HW3.out⟩
                    case measure =>
                      have := HI.out.1
                      simp [intOf]; omega
                · have RE : Hid (resizeP st (k1 : Int) (ss : Int) = (st, 2)) := by
                    show _ = _
                    rw [HK1.out]; exact resize_no (by have := HI.out; omega) (by have := HI.out; omega) (by rw [HI.out.2.2.2.2.2.2.2]; exact hv0) _
                  clear hok
                  go_wp2_with (first
                    | (go_at_call 15; refine (HPz.out _).mono ?_; rintro e w2 ⟨rfl, rfl⟩)
                    | (go_at_call 18; refine (resize_w (B := B) (g := g) (w0 := w) (st := st) (L := locOf st.sizes) ?_ (k1 : Int) (ss : Int)).mono ?_; exact HOK2.out; rw [RE.out]; rintro e w3 ⟨rfl, hok3⟩; have ck3 := hok3.at (i := k1) (by have := HI.out; have := HKK.out; omega); rw [show (locOf st.sizes).getD k1 0 = v from by rw [HKK.out]; exact HI.out.2.2.2.2.2.2.2] at ck3; have HW3 := Lib.hid hok3; clear hok3)
                    | (go_at_call 20; refine (used_w (B := B) (g := g) (w0 := w) (st := st) (L := locOf st.sizes) ?_).mono ?_; exact HW3.out; rintro e w4 ⟨rfl, rfl⟩))
                  go_roundw
                  case rel => exact ⟨i + 1, st, by have := HI.out.1; omega, by go_num, rfl, by have := HI.out; omega, HBD.out, HW3.out⟩
                  case measure =>
                    have := HI.out.1
                    simp [intOf]; omega
              · have hs30 : (ss : Int) < 30 := by have := HI.out; omega
                obtain ⟨m, hm201, hall, hneg, hcase⟩ := take_loc HOK2.out.good (by have := HI.out; omega) (s := (ss : Int)) (by omega)
                obtain ⟨m1, hm1⟩ : ∃ m1, m1 = m + 1 := ⟨_, rfl⟩
                have HM : Hid (m1 = m + 1 ∧ m < 201 ∧ (∀ i, i < m → 0 ≤ (locOf st.sizes).getD (i + 1) 0) ∧ (locOf st.sizes).getD (m + 1) 0 < 0) := ⟨hm1, hm201, hall, hneg⟩
                have hmi : (m : Int) + 1 = (m1 : Int) := by omega
                have hmz : (m1 : Int) < 202 := by omega
                rw [HBD.out] at hcase
                rcases hcase with ⟨kfit, st', e1, e2, e3, e4, e5⟩ | ⟨kno, e1⟩
                · have TE : Hid (takeP st (ss : Int) = (st', (m1 : Int), 0)) := by
                    show _ = _
                    rw [e1, hmi]
                  have HE : Hid (locOf st'.sizes = (locOf st.sizes).set m1 (ss : Int) ∧ st'.used = st.used + (ss : Int) ∧ st'.bound = bd ∧ st'.sizes.length ≤ st.sizes.length + 1) := ⟨by rw [hm1]; exact e2, e3, e4, e5⟩
                  have he := e3
                  clear e1 e2 e3 e4 e5 hok hm1 hm201 hall hneg hmi
                  go_wp2_with (first
                    | (go_at_call 15; refine (HPz.out _).mono ?_; rintro e w2 ⟨rfl, rfl⟩)
                    | (go_at_call 19; refine (take_w (B := B) (g := g) (w0 := w) (st := st) (L := locOf st.sizes) ?_ (ss : Int)).mono ?_; exact HOK2.out; rw [TE.out]; rintro e w3 ⟨rfl, hok3⟩; have HO3 := Lib.hid hok3; clear hok3))
                  go_loopw [17] (fun lv wr => ∃ q : Nat, 1 ≤ q ∧ q ≤ m1 ∧ lv = .int .i64 q ∧ wr = w3) (fun lv _ => 300 - (intOf lv).toNat)
                  case atStart => exact ⟨1, Nat.le_refl _, by have := HM.out.1; omega, rfl, rfl⟩
                  case round =>
                    obtain ⟨q, hq1, hq2, rfl, rfl⟩ := hrel
                    by_cases hqm : q < m1
                    · have cq := HO3.out.at (i := q) (by have := HI.out; have := HM.out; omega)
                      obtain ⟨x, hx⟩ : ∃ x, (locOf st.sizes).getD q 0 = x := ⟨_, rfl⟩
                      have hx0 : 0 ≤ x := by
                        have h1 := HM.out.2.2.1 (q - 1) (by have := HM.out.1; omega)
                        rw [show q - 1 + 1 = q from by omega, hx] at h1
                        exact h1
                      rw [hx] at cq
                      have ql : (q : Int) < 202 := by omega
                      have HQ : Hid (1 ≤ q ∧ q < m1) := ⟨hq1, hqm⟩
                      clear hq1 hq2 hqm hx
                      go_wp2_with fail
                      go_roundw
                      case rel => exact ⟨q + 1, by omega, HQ.out.2, by go_num, trivial⟩
                      case measure =>
                        have := HQ.out
                        have := HM.out
                        simp [intOf]; omega
                    · obtain rfl : q = m1 := by omega
                      have cq := HO3.out.at (i := q) (by have := HI.out; have := HM.out; omega)
                      obtain ⟨x, hx⟩ : ∃ x, (locOf st.sizes).getD q 0 = x := ⟨_, rfl⟩
                      have hx0 : x < 0 := by
                        have h1 := HM.out.2.2.2
                        rw [← HM.out.1, hx] at h1
                        exact h1
                      have hx1 : ¬ 0 ≤ x := by omega
                      rw [hx] at cq
                      clear hq1 hq2 hqm hx
                      have fq := known_free HO3.out.row q
                      have hw4 := HO3.out.write q (ss : Int)
                      rw [← HE.out.1] at hw4
                      have HW3 := Lib.hid hw4
                      clear hw4
                      go_wp2_with (go_at_call 20; refine (used_w (B := B) (g := g) (w0 := w) (st := st') (L := locOf st'.sizes) ?_).mono ?_; exact HW3.out; rintro e w4 ⟨rfl, rfl⟩)
                      go_roundw
                      case rel => exact ⟨i + 1, st', by have := HI.out.1; omega, by go_num, by rw [he], by have := HI.out; have := HE.out.2.2.2; omega, HE.out.2.2.1, HW3.out⟩
                      case measure =>
                        have := HI.out.1
                        simp [intOf]; omega
                · have TE : Hid (takeP st (ss : Int) = (st, 0, 5)) := e1
                  clear e1 hok hm1 hm201 hall hneg hmi
                  go_wp2_with (first
                    | (go_at_call 15; refine (HPz.out _).mono ?_; rintro e w2 ⟨rfl, rfl⟩)
                    | (go_at_call 19; refine (take_w (B := B) (g := g) (w0 := w) (st := st) (L := locOf st.sizes) ?_ (ss : Int)).mono ?_; exact HOK2.out; rw [TE.out]; rintro e w3 ⟨rfl, hok3⟩; have HO3 := Lib.hid hok3; clear hok3))
                  go_loopw [17] (fun lv wr => ∃ q : Nat, 1 ≤ q ∧ q ≤ m1 ∧ lv = .int .i64 q ∧ wr = w3) (fun lv _ => 300 - (intOf lv).toNat)
                  case atStart => exact ⟨1, Nat.le_refl _, by have := HM.out.1; omega, rfl, rfl⟩
                  case round =>
                    obtain ⟨q, hq1, hq2, rfl, rfl⟩ := hrel
                    by_cases hqm : q < m1
                    · have cq := HO3.out.at (i := q) (by have := HI.out; have := HM.out; omega)
                      obtain ⟨x, hx⟩ : ∃ x, (locOf st.sizes).getD q 0 = x := ⟨_, rfl⟩
                      have hx0 : 0 ≤ x := by
                        have h1 := HM.out.2.2.1 (q - 1) (by have := HM.out.1; omega)
                        rw [show q - 1 + 1 = q from by omega, hx] at h1
                        exact h1
                      rw [hx] at cq
                      have ql : (q : Int) < 202 := by omega
                      have HQ : Hid (1 ≤ q ∧ q < m1) := ⟨hq1, hqm⟩
                      clear hq1 hq2 hqm hx
                      go_wp2_with fail
                      go_roundw
                      case rel => exact ⟨q + 1, by omega, HQ.out.2, by go_num, trivial⟩
                      case measure =>
                        have := HQ.out
                        have := HM.out
                        simp [intOf]; omega
                    · obtain rfl : q = m1 := by omega
                      have cq := HO3.out.at (i := q) (by have := HI.out; have := HM.out; omega)
                      obtain ⟨x, hx⟩ : ∃ x, (locOf st.sizes).getD q 0 = x := ⟨_, rfl⟩
                      have hx0 : x < 0 := by
                        have h1 := HM.out.2.2.2
                        rw [← HM.out.1, hx] at h1
                        exact h1
                      have hx1 : ¬ 0 ≤ x := by omega
                      rw [hx] at cq
                      clear hq1 hq2 hqm hx
                      have HW3 := HO3
                      go_wp2_with (go_at_call 20; refine (used_w (B := B) (g := g) (w0 := w) (st := st) (L := locOf st.sizes) ?_).mono ?_; exact HW3.out; rintro e w4 ⟨rfl, rfl⟩)
                      go_roundw
                      case rel => exact ⟨i + 1, st, by have := HI.out.1; omega, by go_num, rfl, by have := HI.out; omega, HBD.out, HW3.out⟩
                      case measure =>
                        have := HI.out.1
                        simp [intOf]; omega
          · have i2 : ¬ (i : Int) < 200 := by omega
            have il : (i : Int) < (len1 : Int) := by omega
            have HB3 := Lib.hid hok.below
            have HZ := Lib.hid hok.size
            clear hok h1 h2 hi hsl
            go_wp2_with (go_at_call 21; refine (awake_any _).mono ?_; rintro e w4 ⟨rfl, ha⟩)
            go_ret
            refine ⟨rfl, ?_⟩
            rw [HB.out]
            exact HB3.out.trans (ha.mono HZ.out)
        · have il : ¬ (i : Int) < (len1 : Int) := by omega
          have HB3 := Lib.hid hok.below
          have HZ := Lib.hid hok.size
          clear hok h1 hi hsl
          go_wp2_with (go_at_call 21; refine (awake_any _).mono ?_; rintro e w4 ⟨rfl, ha⟩)
          go_ret
          refine ⟨rfl, ?_⟩
          rw [HB.out]
          exact HB3.out.trans (ha.mono HZ.out)
end Go.Proofs.Ytmflapajjghpmaa
