/- LibGoes: its lists, what it has scanned (plain); its helps. -/
import Derived.Test.YtdfadipfhcikdaaGreatDoorGoPlain
import Derived.Test.YtdfadipfhcikdaaGreatDoorGoCall
namespace Go.Proofs.YtdfadipfhcikdaaGreatDoor
open Go.RowKit
set_option linter.unusedSimpArgs false
set_option linter.unusedVariables false
set_option maxRecDepth 100000

/-! ### two values more in a list -/
theorem vapp2_nil {a b c d : Value} : ∀ (o : Tr AObj) (nx : Nat) (lg : List Nat) (fid q cc : Nat), o.get q = some (.row [a, b, c, d] 29 2 true) →
    aAppend Tryz.prog 32 32 (.slice none 0 0) (.slice (some ⟨q, 0, none⟩) 2 cc) fid ⟨o, nx, lg⟩ = some (.slice (some ⟨fid, 0, none⟩) 2 0, ⟨o.put fid (some (.row [a, b, c, d] 29 2 true)), nx, lg⟩) := by
  intro o nx lg fid q cc hq
  have hadd : addCells 2 (.slice (some ⟨q, 0, none⟩) 2 cc) ⟨o, nx, lg⟩ = some (2, [a, b, c, d]) := by
    simp only [addCells, qH, hq]; rfl
  rw [appOf_at app_vv, hadd]; rfl
theorem vapp2_row {a b c d : Value} (ho : [a, b, c, d].all oneV = true) {olds : List Value} {m j : Nat} (hm : olds.length = m * 2) (hl : m ≤ 1000000) : ∀ (o : Tr AObj) (nx : Nat) (lg : List Nat) (fid q cc : Nat), o.get q = some (.row [a, b, c, d] 29 2 true) → o.get j = some (.row olds 29 2 true) →
    aAppend Tryz.prog 32 32 (.slice (some ⟨j, 0, none⟩) m 0) (.slice (some ⟨q, 0, none⟩) 2 cc) fid ⟨o, nx, lg⟩ = some (.slice (some ⟨fid, 0, none⟩) (m + 2) 0, ⟨(o.put j none).put fid (some (.row (olds ++ [a, b, c, d]) 29 2 true)), nx, noteId j lg⟩) := by
  intro o nx lg fid q cc hq hj
  have hadd : addCells 2 (.slice (some ⟨q, 0, none⟩) 2 cc) ⟨o, nx, lg⟩ = some (2, [a, b, c, d]) := by
    simp only [addCells, qH, hq]; rfl
  have hr : roomOk (m + 2) 16 = true := by unfold roomOk; rw [Bool.and_eq_true, Nat.ble_eq, Nat.ble_eq]; omega
  have hc : cut olds 0 (m * 2) = some olds := cut_in hm [] [] rfl (by simp)
  rw [appOf_at app_vv, hadd]
  simp only [qH, hj, hc, hr, ho, jg, show Nat.beq 2 0 = false from rfl, ji, Nat.beq_refl, Bool.and_self, Bool.true_and]
  rfl
/-! ### what was scanned -/
def kOf (bs : List Bool) (i : Nat) : List Nat := (List.range i).filter fun p => bs[p]? == some false
def wOf (bs : List Bool) (i : Nat) : Bool := (bs.take i).all fun b => !b
def rOf (bs : List Bool) (i : Nat) : Nat := ((bs.take i).takeWhile fun b => !b).length
theorem kOf_lt {bs : List Bool} {i p : Nat} (h : p ∈ kOf bs i) : p < i := by
  have := (List.mem_filter.1 h).1
  exact List.mem_range.1 this
theorem kOf_nodup (bs : List Bool) (i : Nat) : (kOf bs i).Nodup := List.nodup_range.filter _
theorem kOf_len (bs : List Bool) (i : Nat) : (kOf bs i).length ≤ i := by
  have := List.length_filter_le (fun p => bs[p]? == some false) (List.range i)
  rw [List.length_range] at this; exact this
theorem kOf_hole {bs : List Bool} {i : Nat} (h : bs[i]? = some true) : kOf bs (i + 1) = kOf bs i := by
  unfold kOf
  rw [List.range_succ, List.filter_append]
  simp [h]
theorem kOf_key {bs : List Bool} {i : Nat} (h : bs[i]? = some false) : kOf bs (i + 1) = kOf bs i ++ [i] := by
  unfold kOf
  rw [List.range_succ, List.filter_append]
  simp [h]
theorem take_one {bs : List Bool} {i : Nat} {b : Bool} (h : bs[i]? = some b) : bs.take (i + 1) = bs.take i ++ [b] := by
  rw [List.take_add_one, h]; rfl
theorem wOf_succ {bs : List Bool} {i : Nat} {b : Bool} (h : bs[i]? = some b) : wOf bs (i + 1) = (wOf bs i && !b) := by
  unfold wOf; rw [take_one h, List.all_append]; simp
theorem takeWhile_app {α : Type} (p : α → Bool) (l : List α) (x : α) : (l ++ [x]).takeWhile p = if l.all p = true then l ++ (if p x = true then [x] else []) else l.takeWhile p := by
  induction l with
  | nil => simp [List.takeWhile]; cases p x <;> rfl
  | cons a l ih =>
    simp only [List.cons_append, List.takeWhile_cons, List.all_cons]
    cases p a with
    | false => simp
    | true =>
      simp only [Bool.true_and, if_true, ih]
      split <;> rfl
theorem takeWhile_all {α : Type} {p : α → Bool} {l : List α} (h : l.all p = true) : l.takeWhile p = l := by
  induction l with
  | nil => rfl
  | cons a l ih =>
    simp only [List.all_cons, Bool.and_eq_true] at h
    rw [List.takeWhile_cons, if_pos h.1, ih h.2]
theorem rOf_succ {bs : List Bool} {i : Nat} {b : Bool} (h : bs[i]? = some b) : rOf bs (i + 1) = if (wOf bs i && !b) = true then rOf bs i + 1 else rOf bs i := by
  unfold rOf wOf
  rw [take_one h, takeWhile_app]
  cases hw : (bs.take i).all fun b => !b with
  | false => simp
  | true =>
    rw [takeWhile_all hw]
    cases b <;> simp
def wantL (ks : List Nat) : List VV := ks.flatMap fun k => [(3, Int.ofNat k + 1), (3, Int.ofNat k + 50)]
theorem wantL_len (ks : List Nat) : (wantL ks).length = 2 * ks.length := by
  induction ks with
  | nil => rfl
  | cons k l ih => simp only [wantL, List.flatMap_cons, List.length_append, List.length_cons, List.length_nil] at ih ⊢; omega
theorem wantL_app (ks : List Nat) (k : Nat) : wantL (ks ++ [k]) = wantL ks ++ [(3, Int.ofNat k + 1), (3, Int.ofNat k + 50)] := by simp [wantL]
theorem vv_app (l m : List VV) : vvCells (l ++ m) = vvCells l ++ vvCells m := by simp [vvCells]
end Go.Proofs.YtdfadipfhcikdaaGreatDoor
