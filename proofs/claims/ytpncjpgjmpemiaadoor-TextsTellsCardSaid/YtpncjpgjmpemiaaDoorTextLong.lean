/- Texts: Long and Compare, in the model's worlds. -/
import Derived.Test.YtpncjpgjmpemiaaDoorTextUnq
namespace Go.Proofs.YtpncjpgjmpemiaaDoor
open Go.RowKit
set_option linter.unusedSimpArgs false
set_option linter.unusedVariables false

theorem compare_any (a b : ByteArray) (w : World) : Calls Tryd.prog 16 #[.string a, .string b] w fun e w' => e = .returned (.int .i64 (Lib.compareBytes a.data.toList b.data.toList)) ∧ Below w.heap.size w w' := by
  go_enter Tryd.func16, Tryd.ntmps16
  go_wp2_with (go_at_call 40; refine (Any.strings_Compare Tryd.lays106 a b _).mono ?_; rintro e w' ⟨rfl, rfl⟩)
  go_ret
  exact ⟨rfl, Below.refl _ _⟩
def strLen : Value → Nat
  | .string s => s.size
  | _ => 0
theorem level_step (s : List UInt8) (m k : Nat) (h : Lib.contains (s ++ [93]) (93 :: (List.replicate k 61 ++ [93])) = true) : levelL s (m + 1) k = levelL s m (k + 1) := by rw [levelL, h]; rfl
theorem level_stop (s : List UInt8) (m k : Nat) (h : Lib.contains (s ++ [93]) (93 :: (List.replicate k 61 ++ [93])) = false) : levelL s m k = k := by
  cases m with
  | zero => rfl
  | succ m => rw [levelL, h]; rfl
theorem level_room (s : List UInt8) (k : Nat) (h : Lib.contains (s ++ [93]) (93 :: (List.replicate k 61 ++ [93])) = true) : k + 1 ≤ s.length := by
  have := Lib.index_room _ _ (of_decide_eq_true h)
  have h0 := of_decide_eq_true h
  simp at this
  omega
theorem str_app (a b : List UInt8) : (⟨a.toArray⟩ : ByteArray) ++ ⟨b.toArray⟩ = ⟨(a ++ b).toArray⟩ := by
  apply ByteArray.ext
  apply Array.ext'
  simp [ByteArray.data_append]
theorem str_app1 (s : ByteArray) (b : List UInt8) : s ++ ⟨b.toArray⟩ = ⟨(s.data.toList ++ b).toArray⟩ := by
  apply ByteArray.ext
  apply Array.ext'
  simp [ByteArray.data_append]
theorem str_app2 (s : ByteArray) (b : List UInt8) : (⟨b.toArray⟩ : ByteArray) ++ s = ⟨(b ++ s.data.toList).toArray⟩ := by
  apply ByteArray.ext
  apply Array.ext'
  simp [ByteArray.data_append]
theorem long_str (l r : List UInt8) : (⟨#[91]⟩ : ByteArray) ++ ⟨r.toArray⟩ ++ ⟨#[91, 10]⟩ ++ ⟨l.toArray⟩ ++ ⟨#[93]⟩ ++ ⟨r.toArray⟩ ++ ⟨#[93]⟩ = ⟨(91 :: (r ++ (91 :: 10 :: (l ++ (93 :: (r ++ [93])))))).toArray⟩ := by
  apply ByteArray.ext
  apply Array.ext'
  simp [ByteArray.data_append]
theorem contains_str (s t : List UInt8) (hs : s.length ≤ 2000000000) (m : Int) (w : World) (hm : w.cell? ⟨0, 0, none⟩ = some (.int .i64 m)) :
    Calls Tryd.prog 39 #[str s, str t] w fun e w' => e = .returned (.bool (Lib.contains s t)) ∧ w' = w :=
  Any.strings_Contains Tryd.lays144 ⟨s.toArray⟩ ⟨t.toArray⟩ m w (by rw [JS]; omega) hm
set_option maxHeartbeats 4000000 in
set_option maxRecDepth 100000 in
theorem long_any (l : List UInt8) (hs : l.length ≤ 1000000000) (m : Int) (w : World) (hm : w.cell? ⟨0, 0, none⟩ = some (.int .i64 m)) :
    Calls Tryd.prog 14 #[str l] w fun e w' => e = .returned (.tuple #[str (longL l).1, .bool (longL l).2]) ∧ Below w.heap.size w w' := by
  have HM : Hid (w.cell? ⟨0, 0, none⟩ = some (.int .i64 m)) := hm
  clear hm
  cases h13 : Lib.contains l [13] with
  | true =>
    have HL : Hid (longL l = ([], false)) := by show _ = _; unfold longL; rw [h13]; rfl
    have HC : Hid (Lib.contains l [13] = true) := h13
    clear h13
    go_enter Tryd.func14, Tryd.ntmps14
    go_wp2_with (go_at_call 39; refine (contains_str l [13] (by omega) m _ HM.out).mono ?_; rw [HC.out]; rintro e w' ⟨rfl, rfl⟩)
    go_ret2
    exact ⟨by rw [HL.out]; rfl, Below.refl _ _⟩
  | false =>
    have HL : Hid (longL l = (longOf l (levelL l (l.length + 2) 0), true)) := by show _ = _; unfold longL; rw [h13]; rfl
    have HC : Hid (Lib.contains l [13] = false) := h13
    clear h13
    go_enter Tryd.func14, Tryd.ntmps14
    go_wp2_with (go_at_call 39; refine (contains_str l [13] (by omega) m _ HM.out).mono ?_; rw [HC.out]; rintro e w' ⟨rfl, rfl⟩)
    have hls : (⟨l.toArray⟩ : ByteArray).size = l.length := JS l
    go_loop [4] (fun lv => ∃ (k d : Nat) (r : List UInt8), k ≤ l.length ∧ k + d = l.length + 2 ∧ lv = str r ∧ r.length = k ∧ Hid (r = List.replicate k 61) ∧ Hid (longL l = (longOf l (levelL l d k), true))) (fun lv => l.length + 2 - strLen lv)
    case atStart => exact ⟨0, l.length + 2, [], Nat.zero_le _, by omega, rfl, rfl, rfl, HL⟩
    case round =>
      obtain ⟨k, d, r, hk, hkd, rfl, hrl, HR, HE⟩ := hrel
      clear HL HC
      obtain ⟨d, rfl⟩ : ∃ d', d = d' + 1 := ⟨d - 1, by omega⟩
      have hrk : (⟨r.toArray⟩ : ByteArray).size = k := by rw [JS, hrl]
      have hsz1 : ((⟨l.toArray⟩ : ByteArray) ++ ⟨#[93]⟩).size = l.length + 1 := by rw [ByteArray.size_append, hls]; rfl
      have hsz2 : ((⟨#[93]⟩ : ByteArray) ++ ⟨r.toArray⟩).size = 1 + k := by rw [ByteArray.size_append, hrk]; rfl
      have e1 : (⟨l.toArray⟩ : ByteArray) ++ ⟨#[93]⟩ = ⟨(l ++ [93]).toArray⟩ := str_app l [93]
      have e2 : (⟨#[93]⟩ : ByteArray) ++ ⟨r.toArray⟩ ++ ⟨#[93]⟩ = ⟨(93 :: (r ++ [93])).toArray⟩ := by
        rw [show (⟨#[93]⟩ : ByteArray) ++ ⟨r.toArray⟩ = ⟨([93] ++ r).toArray⟩ from str_app [93] r]
        exact str_app ([93] ++ r) [93]
      have HE1 : Hid ((⟨l.toArray⟩ : ByteArray) ++ ⟨#[93]⟩ = ⟨(l ++ [93]).toArray⟩) := e1
      have HE2 : Hid ((⟨#[93]⟩ : ByteArray) ++ ⟨r.toArray⟩ ++ ⟨#[93]⟩ = ⟨(93 :: (r ++ [93])).toArray⟩) := e2
      clear e1 e2
      cases hc : Lib.contains (l ++ [93]) (93 :: (r ++ [93])) with
      | true =>
        have HC : Hid (Lib.contains (l ++ [93]) (93 :: (r ++ [93])) = true) := hc
        have hroom : k + 1 ≤ l.length := level_room l k (by rw [← HR.out]; exact hc)
        have HN : Hid (longL l = (longOf l (levelL l d (k + 1)), true)) := by
          show _ = _
          rw [HE.out, level_step l d k (by rw [← HR.out]; exact hc)]
        have HR1 : Hid (r ++ [61] = List.replicate (k + 1) 61) := by
          show _ = _
          rw [HR.out, List.replicate_succ']
        have HE3 : Hid ((⟨r.toArray⟩ : ByteArray) ++ ⟨#[61]⟩ = ⟨(r ++ [61]).toArray⟩) := str_app r [61]
        clear hc HE
        go_wp2_with fail
        rw [HE1.out, HE2.out]
        refine (contains_str _ _ (by simp; omega) m _ HM.out).mono ?_
        rw [HC.out]
        rintro e w' ⟨rfl, rfl⟩
        go_wp2_with fail
        go_round
        case rel => exact ⟨k + 1, d, r ++ [61], by omega, by omega, by rw [HE3.out], by simp [hrl], HR1, HN⟩
        case measure => rw [HE3.out]; simp only [strLen, JS, List.length_append, List.length_cons, List.length_nil, hrl]; omega
      | false =>
        have HC : Hid (Lib.contains (l ++ [93]) (93 :: (r ++ [93])) = false) := hc
        have HN : Hid (longL l = (longOf l k, true)) := by
          show _ = _
          rw [HE.out, level_stop l _ k (by rw [← HR.out]; exact hc)]
        clear hc HE
        go_wp2_with fail
        rw [HE1.out, HE2.out]
        refine (contains_str _ _ (by simp; omega) m _ HM.out).mono ?_
        rw [HC.out]
        rintro e w' ⟨rfl, rfl⟩
        go_wp2_with fail
        go_ret2
        refine ⟨?_, Below.refl _ _⟩
        rw [HN.out]
        show Ending.returned (.tuple #[.string _, .bool true]) = Ending.returned (.tuple #[.string _, .bool true])
        rw [long_str, HR.out]
        rfl
end Go.Proofs.YtpncjpgjmpemiaaDoor
