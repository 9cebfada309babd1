/- The helps for this seat: strconv's FormatInt and ParseInt at base 10, by the kit's contracts. -/
import Derived.Test.YtedfjfpnpncgkaaDoorAmC
import Derived.Test.YtedfjfpnpncgkaaDoorShelfI
import Derived.Lib.AtoiErrMem
import Derived.Lib.SmallJoins
namespace Go.Proofs.YtedfjfpnpncgkaaDoor
open Go.RowKit
set_option linter.unusedSimpArgs false
set_option linter.unusedVariables false

def gs2 : List Nat := [2, 0, 1]
def powCells : List Value := Lib.pow10Tab.map (Value.int .u64)
def sameInts : List Value → List Int → Bool
  | [], [] => true
  | .int .u64 a :: l, b :: m => decide (a = b) && sameInts l m
  | _, _ => false
theorem sameInts_eq : ∀ (l : List Value) (m : List Int), sameInts l m = true → l = m.map (Value.int .u64)
  | [], [], _ => rfl
  | v :: l, b :: m, h => by
    unfold sameInts at h
    split at h
    · rename_i e; cases e
    · rename_i a l' b' m' e1 e2
      cases e1; cases e2
      rw [Bool.and_eq_true] at h
      rw [of_decide_eq_true h.1, sameInts_eq l m h.2]; rfl
    · cases h
  | [], _ :: _, h => by cases h
  | _ :: _, [], h => by
    unfold sameInts at h
    split at h
    · rename_i e _; cases e
    · rename_i e; cases e
    · cases h
def hasTab (H : AHeap) : Bool := match H.get 2 with
  | some (.row cells _ 0 false) => sameInts cells Lib.pow10Tab
  | _ => false
def hasErr (g : Nat) (H : AHeap) : Bool := match H.get g with
  | some (.row (.iface _ (.pointer (some ⟨_, _, none⟩)) :: _) _ _ _) => true
  | _ => false

/-! ### decimal digits, by a recursion that the kernel runs -/
def digL : Nat → Nat → List UInt8 → List UInt8
  | 0, _, acc => acc
  | f + 1, u, acc => cond (Nat.blt u 10) (UInt8.ofNat (48 + u) :: acc) (digL f (u / 10) (UInt8.ofNat (48 + u % 10) :: acc))
theorem digL_eq : ∀ (f u : Nat) (acc : List UInt8), u < 10 ^ f → digL f u acc = Lib.decDigits u ++ acc ∨ f = 0
  | 0, _, _, _ => .inr rfl
  | f + 1, u, acc, h => .inl (by
    rw [digL, Lib.decDigits]
    by_cases h1 : u < 10
    · rw [show Nat.blt u 10 = true from Nat.blt_eq ▸ h1, dif_pos h1]; rfl
    · rw [show Nat.blt u 10 = false from by cases e : Nat.blt u 10; · rfl
                                            · exact absurd (by rw [Nat.blt_eq] at e; exact e) h1, dif_neg h1]
      simp only [cond]
      have h2 : u / 10 < 10 ^ f := by rw [Nat.pow_succ] at h; omega
      rcases digL_eq f (u / 10) (UInt8.ofNat (48 + u % 10) :: acc) h2 with e | e
      · rw [e, List.append_assoc]; rfl
      · subst e; simp at h2; omega)
def fmtL (n : Int) : List UInt8 := cond (decide (n < 0)) (45 :: digL 20 n.natAbs []) (digL 20 n.toNat [])
theorem fmtL_eq (n : Int) (h0 : -9223372036854775808 ≤ n) (h1 : n ≤ 9223372036854775807) : fmtL n = Lib.itoa n := by
  have key : ∀ u, u ≤ 9223372036854775808 → digL 20 u [] = Lib.decDigits u := fun u hu => by
    rcases digL_eq 20 u [] (by omega) with e | e
    · rw [e, List.append_nil]
    · cases e
  unfold fmtL Lib.itoa
  by_cases hn : n < 0
  · rw [decide_eq_true hn, if_pos hn, key _ (by omega)]; rfl
  · rw [decide_eq_false hn, if_neg hn]; exact key _ (by omega)

theorem below_grown (B : Nat) (w : World) (q : Nat) (os : Array Obj) (hB : B ≤ w.heap.size) : Below B w (Sort.grow (w.drewN q) os) :=
  ⟨rfl, rfl, rfl, by simp [Sort.grow], fun b hb => by
    show (w.heap ++ os)[b]? = _
    rw [Array.getElem?_append_left (by omega)]⟩
def fmtHelp (args : List Value) (H : AHeap) : Option (Value × AHeap) := match args with
  | [.int .i64 n, .int .i64 b] => cond (hasTab H && (decide (b = 10) && (decide (-9223372036854775808 ≤ n) && decide (n ≤ 9223372036854775807)))) (some (str (fmtL n), H)) none
  | _ => none
/-- what ParseInt answers: the number, and whether it is one -/
def parseR (s : ByteArray) : Int × Bool := match Lib.parseIntB 64 s.data.toList with
  | .ok v => (v, true)
  | .range => (Lib.intSat 64 s.data.toList, false)
  | _ => (0, false)
def errType : TypeId := 60
def parseHelp (args : List Value) (H : AHeap) : Option (Value × AHeap) := match args with
  | [.string s, .int .i64 b, .int .i64 z] => cond (hasErr 0 H && (hasErr 1 H && (decide (b = 10) && (decide (z = 64) && Nat.ble s.size 281474976710656))))
      (some (cond (parseR s).2 (.tuple #[.int .i64 (parseR s).1, .nilIface], H) (.tuple #[.int .i64 (parseR s).1, .iface errType (.pointer (some ⟨H.next, 0, none⟩))], { H with next := H.next + 1 }))) none
  | _ => none
def O1 : Helps := fun f => cond (Nat.beq f 29) (some fmtHelp) (cond (Nat.beq f 25) (some parseHelp) none)

theorem tab_of {β : Ren} {H : AHeap} {w : World} (hr : Rel β H w) (hg : GlobOk gs2 β) (h : hasTab H = true) : ∃ c t fz, w.heap[2]? = some (.cells c t fz) ∧ c = (Lib.pow10Tab.map (Value.int .u64)).toArray ∧ ∀ j, j < 20 → (decide (fz.1 ≤ j) && decide (j < fz.2)) = false := by
  unfold hasTab at h
  split at h
  · rename_i cells t hget
    obtain ⟨s, hs, hb, hsh, htot⟩ := hg 2 (by simp [gs2])
    obtain ⟨_, h2, h3⟩ := hr.obj _ _ _ hget hs
    obtain ⟨_, c, fz, hc, hz, hfz⟩ := h3 rfl
    have hcells := sameInts_eq _ _ h
    rw [hb] at hc
    refine ⟨c, t, fz, hc, ?_, by rw [htot] at hfz; exact hfz⟩
    apply Array.ext'
    refine List.ext_getElem? fun j => ?_
    simp only [List.toList_toArray]
    by_cases hj : j < 20
    · have hjc : j < cells.length := by rw [hcells, List.length_map, Lib.pow10Tab_length]; exact hj
      obtain ⟨v', hv, hvr⟩ := h2 j cells[j] (List.getElem?_eq_getElem hjc)
      have e : cells[j]? = (Lib.pow10Tab.map (Value.int .u64))[j]? := by rw [hcells]
      rw [List.getElem?_eq_getElem hjc] at e
      rw [← e]
      rw [hb, hsh, Nat.zero_add] at hv
      have hv2 : w.cell? ⟨2, j, none⟩ = c[j]? := by
        have := cell_of_row w 2 j c t fz hc
        exact this
      rw [hv2] at hv
      rw [Array.getElem?_toList, hv]
      congr 1
      have : flat cells[j] = true := by
        have hm : ∀ v ∈ cells, flat v = true := fun v hv => by
          rw [hcells] at hv
          obtain ⟨z, _, hz⟩ := List.mem_map.1 hv
          rw [← hz]; rfl
        exact hm _ (List.getElem_mem hjc)
      exact (flat_vr this β).2 _ hvr
    · rw [List.getElem?_eq_none (by simp [hz, htot]; omega), List.getElem?_eq_none (by rw [List.length_map, Lib.pow10Tab_length]; omega)]
  · cases h
theorem err_of {β : Ren} {H : AHeap} {w : World} (hr : Rel β H w) (hg : GlobOk gs2 β) {g : Nat} (hm : g ∈ gs2) (h : hasErr g H = true) : ∃ te b p, w.cell? ⟨g, 0, none⟩ = some (.iface te (.pointer (some ⟨b, p, none⟩))) ∧ b < w.heap.size := by
  unfold hasErr at h
  split at h
  · rename_i te i o l e z own hget
    obtain ⟨s, hs, hb, hsh, _⟩ := hg g hm
    obtain ⟨_, h2, _⟩ := hr.obj _ _ _ hget hs
    obtain ⟨v', hv, hvr⟩ := h2 0 (.iface te (.pointer (some ⟨i, o, none⟩))) rfl
    rw [hb, hsh] at hv
    cases hvr with
    | iface h' => cases h' with
      | ptr h'' => exact ⟨te, _, _, hv, hr.blk _ _ h''⟩
  · cases h

theorem O1_sound : CallSound Tryd.prog gs2 (helpFn O1) := fun f args H v H' h hwf => by
  unfold helpFn O1 at h
  cases hf : Nat.beq f 29 with
  | true =>
    have hf := Nat.eq_of_beq_eq_true hf
    subst hf
    simp only [Nat.beq_refl, cond] at h
    unfold fmtHelp at h
    split at h
    · rename_i n b
      cases hc : (hasTab H && (decide (b = 10) && (decide (-9223372036854775808 ≤ n) && decide (n ≤ 9223372036854775807)))) with
      | false => rw [hc] at h; cases h
      | true =>
        rw [hc] at h
        simp only [cond, Option.some.injEq, Prod.mk.injEq] at h
        obtain ⟨rfl, rfl⟩ := h
        simp only [Bool.and_eq_true, decide_eq_true_eq] at hc
        obtain ⟨ht, rfl, h0, h1⟩ := hc
        refine quiet_owed rfl rfl fun β w hr hg => ?_
        rw [fmtL_eq n h0 h1]
        refine (Any.strconv_FormatInt_10 Tryd.laysM173 n h0 h1 w ?_).mono ?_
        · obtain ⟨c, t, fz, hc1, hc2, _⟩ := tab_of hr hg ht
          unfold Lib.TabIs World.var?
          rw [show Program.globalNamed Tryd.prog _ = some 2 from by kernel_rfl]
          simp only [Option.bind_some, hc1, hc2]
        · rintro e w' ⟨h1, k, os, rfl⟩
          exact ⟨h1, below_grown _ w k os (Nat.le_refl _)⟩
    · cases h
  | false =>
    rw [hf] at h
    simp only [cond] at h
    cases hp : Nat.beq f 25 with
    | false => rw [hp] at h; cases h
    | true =>
      have hp' := Nat.eq_of_beq_eq_true hp
      subst hp'
      simp only [Nat.beq_refl] at h
      unfold parseHelp at h
      split at h
      · rename_i s b z
        cases hc : (hasErr 0 H && (hasErr 1 H && (decide (b = 10) && (decide (z = 64) && Nat.ble s.size 281474976710656)))) with
        | false => rw [hc] at h; cases h
        | true =>
          rw [hc] at h
          simp only [cond, Option.some.injEq] at h
          simp only [Bool.and_eq_true, decide_eq_true_eq, Nat.ble_eq] at hc
          obtain ⟨he1, he2, rfl, rfl, hs⟩ := hc
          unfold parseR at h
          cases hn : Lib.parseIntB 64 s.data.toList with
          | ok n =>
            rw [hn] at h
            simp only [Prod.mk.injEq] at h
            obtain ⟨rfl, rfl⟩ := h
            refine quiet_owed rfl rfl fun β w hr hg => ?_
            refine (Any.strconv_ParseInt_10_at64_ok Tryd.laysC174 s (by omega) n hn w).mono ?_
            rintro e w' ⟨h1, rfl | ⟨t, rfl⟩⟩
            · exact ⟨h1, Below.refl _ _⟩
            · exact ⟨h1, Joins.below_bytesWorld _ w _ t (Nat.le_refl _)⟩
          | range =>
            rw [hn] at h
            simp only [Prod.mk.injEq] at h
            obtain ⟨rfl, rfl⟩ := h
            refine fresh_owed rfl hwf fun β w hr hg => ?_
            obtain ⟨te, _, _, hcell, _⟩ := err_of hr hg (by simp [gs2]) he2
            refine (Any.strconv_ParseInt_10_at64_range Tryd.laysC174 s hs hn _ w hcell (.inr ⟨_, _, rfl⟩)).mono ?_
            rintro e w' ⟨N, h1, h2, h3, h4⟩
            exact ⟨N, h1, h2, (Array.getElem?_eq_some_iff.1 h3).1, h4⟩
          | _ =>
            rw [hn] at h
            simp only [Prod.mk.injEq] at h
            obtain ⟨rfl, rfl⟩ := h
            refine fresh_owed rfl hwf fun β w hr hg => ?_
            obtain ⟨te, _, _, hcell, _⟩ := err_of hr hg (by simp [gs2]) he1
            refine (Any.strconv_ParseInt_10_at64_syntax Tryd.laysC174 s hs hn _ w hcell (.inr ⟨_, _, rfl⟩)).mono ?_
            rintro e w' ⟨N, h1, h2, h3, h4⟩
            exact ⟨N, h1, h2, (Array.getElem?_eq_some_iff.1 h3).1, h4⟩
      · cases h
end Go.Proofs.YtedfjfpnpncgkaaDoor
