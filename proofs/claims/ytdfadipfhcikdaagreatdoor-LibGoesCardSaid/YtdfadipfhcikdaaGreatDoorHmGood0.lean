/- Heap: New, on the abstract machine. -/
import Derived.Test.YtdfadipfhcikdaaGreatDoorHmCel0
namespace Go.Proofs.YtdfadipfhcikdaaGreatDoor
open Go.RowKit
set_option linter.unusedSimpArgs false
set_option linter.unusedVariables false
set_option maxRecDepth 100000

def hs0 (m : Int) : HS := ⟨m, 0, false, ⟨m, 0, 0, [], []⟩, [], [], []⟩
theorem good0 {m : Int} (h0 : 1 ≤ m) (h1 : m ≤ 16777216) : HGood (hs0 m) :=
  ⟨good_new m (by omega) (by omega), rfl, h1, List.nodup_nil, fun q hq => (by cases hq), rfl, Int.le_refl _⟩
section
variable {O : Helps} {n : Nat} {o : Tr AObj} {nx : Nat} {lg : List Nat} {w : Nat → Nat} {B : HB} {hs : HS}
/-- a new heap -/
def NewTo (o : Tr AObj) (nx : Nat) (lg : List Nat) (m : Int) (r : Value × AHeap) : Prop :=
  ∃ o' nx' lg' w' B, r = (.tuple #[.pointer (some ⟨B.i, 0, none⟩), .int .i64 0], ⟨o', nx', lg'⟩) ∧ nx ≤ nx' ∧ nx ≤ B.i ∧ HeapIn o' nx' w' B (hs0 m) ∧ (∀ x, x < nx → o'.get x = o.get x ∧ w' x = 0) ∧ ∀ y, y ∈ lg → y ∈ lg'
set_option maxHeartbeats 8000000 in
theorem hnew_ok (hO : Clear O) (m : Int) (h0 : 1 ≤ m) (h1 : m ≤ 16777216) : Got (oCall Tryz.prog [] O (n + 2) 4 [.int .i64 m] ⟨o, nx, lg⟩) (NewTo o nx lg m) := by
  have d0 : decide (m < 1) = false := decide_eq_false (by omega)
  have d1 : decide (16777216 < m) = false := decide_eq_false (by omega)
  rw [y_fn (rs := [.tmp 2, .tmp 3]) (hO _ (by decide)) Tryz.func4 rfl (by kernel_rfl) rfl rfl]
  repeat (first | with_reducible (first | refine n_on ?_ | refine n_seq ?_ | refine s_else ?_ | refine n_t ?_ | refine n_gt ?_ | refine d_t ?_ | refine n_nil ?_ | refine d_nil ?_ | refine n_block ?_ | refine n_skip ?_ | refine n_bon ?_ | refine n_bback ?_ | refine n_back ?_ | refine n_out ?_ | refine n_bout rfl ?_ | refine n_bfar rfl ?_ | refine n_ret ?_ | refine n_exit ?_ | refine n_label ?_ | refine n_scope ?_ | refine n_son ?_ | refine n_sback ?_) | (with_reducible (first | apply n_region | apply d_region); (simp only [JV, JU, JW, Nat.reduceAdd, Nat.zero_add]; exact rfl)) | (with_reducible (first | apply s_op | apply n_guard | apply n_cond | apply d_guard | apply d_op | apply n_fin | apply n_finb); (simp (maxDischargeDepth := 6) only [sy3.1, zY, qG, qP, qQ, qR, qS, qT, rowAt, ↓jg, ↓ji, Nat.reduceAdd, Nat.reduceEqDiff, ne_eq, jG, Nat.reduceLT, if_true, ite_true, Int.reduceLE, Int.reduceLT, Int.reduceEq, Int.reduceNeg, Int.reduceAdd, Nat.reduceSub, if_false, ite_false, fs_4.1, d0, d1, kind_pure, kind_load, kind_fresh, kind_other, jg, ji, undef]; first | exact rfl | exact ⟨rfl, rfl, rfl, rfl⟩); try (with_reducible refine calmK_in ?_; decide +kernel)))
  refine s_do _ (by
    simp (maxDischargeDepth := 6) only [sy3.1, zY, qG, qP, qQ, qR, qS, qT, rowAt, ↓jg, ↓ji, Nat.reduceAdd, Nat.reduceEqDiff, ne_eq, jG, Nat.reduceLT, if_true, ite_true, Int.reduceLE, Int.reduceLT, Int.reduceEq, Int.reduceNeg, Int.reduceAdd, Nat.reduceSub, if_false, ite_false, fs_4.1]
    exact pnew_ok hO m (by omega) (by omega)) ?_
  rintro v1 H1 ⟨o1, nx1, lg1, p, heq, hn1, hp, hP, hfr, hmo⟩
  cases heq
  have hplt := hP.lt
  repeat (first | with_reducible (first | refine n_on ?_ | refine n_seq ?_ | refine s_else ?_ | refine n_t ?_ | refine n_gt ?_ | refine d_t ?_ | refine n_nil ?_ | refine d_nil ?_ | refine n_block ?_ | refine n_skip ?_ | refine n_bon ?_ | refine n_bback ?_ | refine n_back ?_ | refine n_out ?_ | refine n_bout rfl ?_ | refine n_bfar rfl ?_ | refine n_ret ?_ | refine n_exit ?_ | refine n_label ?_ | refine n_scope ?_ | refine n_son ?_ | refine n_sback ?_) | (with_reducible (first | apply n_region | apply d_region); (simp only [JV, JU, JW, Nat.reduceAdd, Nat.zero_add]; exact rfl)) | (with_reducible (first | apply s_op | apply n_guard | apply n_cond | apply d_guard | apply d_op | apply n_fin | apply n_finb); (simp (maxDischargeDepth := 6) only [sy3.1, zY, qG, qP, qQ, qR, qS, qT, rowAt, ↓jg, ↓ji, Nat.reduceAdd, Nat.reduceEqDiff, ne_eq, jG, Nat.reduceLT, if_true, ite_true, Int.reduceLE, Int.reduceLT, Int.reduceEq, Int.reduceNeg, Int.reduceAdd, Nat.reduceSub, if_false, ite_false, fs_4.1, hplt, kind_pure, kind_load, kind_fresh, kind_other, jg, ji, undef]; first | exact rfl | exact ⟨rfl, rfl, rfl, rfl⟩); try (with_reducible refine calmK_in ?_; decide +kernel)))
  refine new_end (by show (Nat.blt (nx1 + 8) nx && _) = false; rw [blt_new (by omega)]; rfl) fun l' hmo2 _ => ?_
  refine ⟨_, _, _, fun x => if x = nx1 + 8 then 1 else if x = p then 2 else if x = nx1 + 4 then 5 else if x = nx1 + 5 then 6 else if x = nx1 + 6 then 7 else 0, ⟨nx1 + 8, p, none, none, nx1 + 4, nx1 + 5, nx1 + 6, fun _ => 0⟩, rfl, by omega, by show nx ≤ nx1 + 8; omega, ⟨fun x hx => ?_, if_pos rfl, ?_, fun q e => (by cases e), fun q e => (by cases e), ?_, ?_, ?_, ⟨0, qE _ _ _⟩, hP.keep (by omega) fun x hx => ?_, ⟨[], 0, ?_, rfl⟩, fun q hq => (by cases hq), ⟨[], 0, ?_, rfl⟩, ⟨[], 0, ?_, rfl⟩⟩, fun x hx => ⟨?_, ?_⟩, hmo2⟩
  · try simp only at hx
    by_cases e1 : x = nx1 + 8
    · omega
    · rw [if_neg e1] at hx
      by_cases e2 : x = p
      · omega
      · rw [if_neg e2] at hx
        by_cases e3 : x < nx1 + 11
        · exact e3
        · exfalso
          rw [if_neg (by omega), if_neg (by omega), if_neg (by omega)] at hx
          exact hx rfl
  · show (if p = nx1 + 8 then 1 else if p = p then 2 else _) = 2
    rw [if_neg (by omega), if_pos rfl]
  · show (if nx1 + 4 = nx1 + 8 then 1 else if nx1 + 4 = p then 2 else if nx1 + 4 = nx1 + 4 then 5 else _) = 5
    rw [if_neg (by omega), if_neg (by omega), if_pos rfl]
  · show (if nx1 + 5 = nx1 + 8 then 1 else if nx1 + 5 = p then 2 else if nx1 + 5 = nx1 + 4 then 5 else if nx1 + 5 = nx1 + 5 then 6 else _) = 6
    rw [if_neg (by omega), if_neg (by omega), if_neg (by omega), if_pos rfl]
  · show (if nx1 + 6 = nx1 + 8 then 1 else if nx1 + 6 = p then 2 else if nx1 + 6 = nx1 + 4 then 5 else if nx1 + 6 = nx1 + 5 then 6 else if nx1 + 6 = nx1 + 6 then 7 else 0) = 7
    rw [if_neg (by omega), if_neg (by omega), if_neg (by omega), if_neg (by omega), if_pos rfl]
  · have := hP.mine_lt hx
    (repeat (first | rw [qE] | rw [qF _ _ _ _ (by omega)]))
  · show Tr.get _ (nx1 + 4) = _
    (repeat (first | rw [qE] | rw [qF _ _ _ _ (by omega)]))
  · show Tr.get _ (nx1 + 5) = _
    (repeat (first | rw [qE] | rw [qF _ _ _ _ (by omega)]))
  · show Tr.get _ (nx1 + 6) = _
    (repeat (first | rw [qE] | rw [qF _ _ _ _ (by omega)]))
  · (repeat (first | rw [qE] | rw [qF _ _ _ _ (by omega)]))
    exact hfr x (by omega)
  · show (if x = nx1 + 8 then 1 else if x = p then 2 else if x = nx1 + 4 then 5 else if x = nx1 + 5 then 6 else if x = nx1 + 6 then 7 else 0) = 0
    rw [if_neg (by omega), if_neg (by omega), if_neg (by omega), if_neg (by omega), if_neg (by omega)]
end
end Go.Proofs.YtdfadipfhcikdaaGreatDoor

namespace Go.Proofs.YtdfadipfhcikdaaGreatDoor
open Go.RowKit
set_option linter.unusedSimpArgs false
set_option linter.unusedVariables false
set_option maxRecDepth 100000

theorem hasP_set {l : List Int} {j : Nat} {size : Int} (h0 : 0 ≤ size) (k : Nat) (hk : 0 ≤ l.getD k 0) : 0 ≤ (l.set j size).getD k 0 := by
  by_cases e : k = j
  · subst e
    by_cases hl : k < l.length
    · simp [List.getD, hl]; exact h0
    · have : (l.set k size)[k]? = none := List.getElem?_eq_none (by rw [List.length_set]; omega)
      simp [List.getD, this]
  · have : (l.set j size)[k]? = l[k]? := List.getElem?_set_ne (by omega)
    simp only [List.getD, this] at hk ⊢; exact hk
theorem takeP_has {hs : HS} (hG : HGood hs) {size : Int} (h0 : 0 ≤ size) (hroom : ¬ hs.max < hs.pool.used + size) (hc : hs.pool.count < 65536) : (takeP hs.pool size).1.bound = hs.pool.bound ∧ (takeP hs.pool size).1.count = hs.pool.count + 1 ∧ hasP (takeP hs.pool size).1 (takeP hs.pool size).2.1 = true ∧ ∀ q, hasP hs.pool q = true → hasP (takeP hs.pool size).1 q = true := by
  have hP := hG.pool
  have hcnt := hP.cnt
  have hb := hG.bound
  unfold takeP
  rw [if_neg (by omega), if_neg (fun h => h.elim (fun h => by omega) (fun h => by omega))]
  by_cases h4 : hs.pool.free.length = 0
  · rw [if_pos h4]
    refine ⟨rfl, rfl, ?_, fun q hq => ?_⟩
    · simp only [hasP, List.length_append, List.length_cons, List.length_nil]
      have e : ((hs.pool.sizes.length : Int) + 1 - 1).toNat = hs.pool.sizes.length := by omega
      have e2 : (hs.pool.sizes ++ [size]).getD hs.pool.sizes.length 0 = size := by simp [List.getD]
      rw [e, e2]
      simp only [Bool.and_eq_true, decide_eq_true_eq]
      refine ⟨⟨?_, ?_⟩, ?_⟩ <;> omega
    · simp only [hasP, List.length_append, List.length_cons, List.length_nil, Bool.and_eq_true, decide_eq_true_eq] at hq ⊢
      have hl : (q - 1).toNat < hs.pool.sizes.length := by omega
      have e2 : (hs.pool.sizes ++ [size]).getD (q - 1).toNat 0 = hs.pool.sizes.getD (q - 1).toNat 0 := by simp only [List.getD, List.getElem?_append_left hl]
      rw [e2]
      refine ⟨⟨?_, ?_⟩, ?_⟩ <;> omega
  · rw [if_neg h4]
    obtain ⟨k, h1, h2, h3, _⟩ := hP.top (by omega)
    refine ⟨rfl, rfl, ?_, fun q hq => ?_⟩
    · simp only [hasP, h1, List.length_set]
      have e : ((k : Int) + 1 - 1).toNat = k := by omega
      have e2 : (hs.pool.sizes.set k size).getD k 0 = size := by simp [List.getD, h2]
      rw [e, e2]
      simp only [Bool.and_eq_true, decide_eq_true_eq]
      refine ⟨⟨?_, ?_⟩, ?_⟩ <;> omega
    · simp only [hasP, List.length_set, Bool.and_eq_true, decide_eq_true_eq] at hq ⊢
      exact ⟨hq.1, hasP_set h0 _ hq.2⟩
theorem HGood.add {hs : HS} (hG : HGood hs) (ob : Ob) {size : Int} (h0 : 0 ≤ size) (hc : hs.pool.count < 65536) : HGood (addO hs ob size).1 := by
  unfold addO
  by_cases hroom : hs.max < hs.pool.used + size
  · rw [if_pos hroom]; exact hG
  rw [if_neg hroom]
  obtain ⟨t1, t2, t3⟩ := take_new hG h0 hroom hc
  obtain ⟨u1, u2, u3, u4⟩ := takeP_has hG h0 hroom hc
  refine ⟨hG.pool.take size, u1.trans hG.bound, hG.max, ?_, fun q hq => ?_, ?_, ?_⟩
  · simp only [List.map_append, List.map_cons, List.map_nil]
    refine List.nodup_append.2 ⟨hG.keys, by simp, fun a ha b hb => ?_⟩
    simp only [List.mem_singleton] at hb
    subst hb
    intro e
    subst e
    obtain ⟨q, hq, he⟩ := List.mem_map.1 ha
    have := hG.ids q hq
    rw [he, t2] at this; cases this
  · simp only [List.mem_append, List.mem_singleton] at hq
    rcases hq with hq | rfl
    · exact u4 _ (hG.ids q hq)
    · exact u3
  · simp only [u2, hG.cnt, List.length_append, List.length_cons, List.length_nil]
    omega
  · have := hG.made0
    simp only
    split <;> omega
theorem HGood.cell {hs : HS} (hG : HGood hs) (v : VV) (hc : hs.pool.count < 65536) : HGood (cellO hs v).1 := by
  unfold cellO
  split
  · exact hG.add _ (by decide) hc
  · exact hG
theorem takeP_le {hs : HS} (hG : HGood hs) {size : Int} (h0 : 0 ≤ size) (hroom : ¬ hs.max < hs.pool.used + size) (hc : hs.pool.count < 65536) : (takeP hs.pool size).1.used = hs.pool.used + size ∧ (takeP hs.pool size).1.sizes.length ≤ hs.pool.sizes.length + 1 := by
  have hcnt := hG.pool.cnt
  have hb := hG.bound
  unfold takeP
  rw [if_neg (by omega), if_neg (fun h => h.elim (fun h => by omega) (fun h => by omega))]
  by_cases h4 : hs.pool.free.length = 0
  · rw [if_pos h4]
    exact ⟨rfl, by simp⟩
  · rw [if_neg h4]
    exact ⟨rfl, by simp⟩
theorem look_add (l : List (Int × Ob)) (d : Int) (ob : Ob) (q : Int) : lookO (l ++ [(d, ob)]) q = match lookO l q with
    | some x => some x
    | none => if d = q then some ob else none := by
  unfold lookO
  rw [List.find?_append]
  cases h : l.find? (fun p => decide (p.1 = q)) with
  | some p => rfl
  | none =>
    simp only [Option.none_or, Option.map_none, List.find?_cons, List.find?_nil]
    by_cases e : d = q
    · simp [e]
    · simp [e]
theorem find_add_old {hs : HS} (ob : Ob) (size : Int) {v : VV} {x : Ob} (h : findO hs v = some x) : findO (addO hs ob size).1 v = some x := by
  unfold addO
  split
  · exact h
  · unfold findO at h ⊢
    cases hk : holdsK v.1 with
    | false => rw [hk] at h; simp at h
    | true =>
      rw [hk] at h
      simp only [if_true] at h ⊢
      rw [look_add]
      cases e : lookO hs.objs v.2 with
      | none => rw [e] at h; cases h
      | some y => rw [e] at h; exact h
theorem find_add_new {hs : HS} (hG : HGood hs) (ob : Ob) {size : Int} (h0 : 0 ≤ size) (hroom : ¬ hs.max < hs.pool.used + size) (hc : hs.pool.count < 65536) (hk : holdsK ob.kind = true) : findO (addO hs ob size).1 (addO hs ob size).2.1 = some { ob with serial := if serialK ob.kind = true then hs.made + 1 else ob.serial } := by
  have hn := new_key hG (take_new hG h0 hroom hc).2.1
  unfold addO
  rw [if_neg hroom]
  unfold findO
  simp only [hk, if_true]
  rw [look_add, hn]
  simp only [if_true]
theorem ofO_look {hs : HS} {c : VV} {k : Int} {ob : Ob} (h : ofO hs c k = some ob) : c.1 = k ∧ lookO hs.objs c.2 = some ob ∧ ob.kind = c.1 := by
  unfold ofO at h
  split at h
  · rename_i hk
    refine ⟨hk, ?_⟩
    unfold findO at h
    split at h
    · cases e : lookO hs.objs c.2 with
      | none => rw [e] at h; cases h
      | some y =>
        rw [e] at h
        simp only at h
        split at h
        · rename_i h2; cases h; exact ⟨rfl, h2⟩
        · cases h
    · cases h
  · cases h
end Go.Proofs.YtdfadipfhcikdaaGreatDoor
