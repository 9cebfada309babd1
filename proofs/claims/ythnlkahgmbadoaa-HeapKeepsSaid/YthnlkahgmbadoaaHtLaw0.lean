/- HeapTexts: a heap that has nothing but texts. Plain. -/
import Derived.Test.YthnlkahgmbadoaaHmStr2
import Derived.Test.YthnlkahgmbadoaaHmGood0
namespace Go.Proofs.Ythnlkahgmbadoaa
open Go.RowKit
set_option linter.unusedSimpArgs false
set_option linter.unusedVariables false
set_option maxRecDepth 100000

/-- a heap of texts, each once -/
structure TxOnly (hs : HS) : Prop where
  good : HGood hs
  watch : hs.watch = false
  objs : hs.objs = hs.texts.map fun q => (q.2, strOb q.1)
  nd : (hs.texts.map (·.1)).Nodup
  max : hs.max = 100000
  used : hs.pool.used ≤ 64 * hs.texts.length
  sizes : hs.pool.sizes.length ≤ hs.texts.length
  made : hs.made = 0
theorem lookT_mem {l : List (ByteArray × Int)} {s : ByteArray} {d : Int} (h : lookT l s = some d) : (s, d) ∈ l := by
  unfold lookT at h
  obtain ⟨q, hq, rfl⟩ := Option.map_eq_some_iff.1 h
  have h1 := List.mem_of_find?_eq_some hq
  have h2 := List.find?_some hq
  simp only [decide_eq_true_eq] at h2
  rw [← h2]; exact h1
theorem lookT_none {l : List (ByteArray × Int)} {s : ByteArray} (h : lookT l s = none) : s ∉ l.map (·.1) := by
  intro hm
  obtain ⟨q, hq, e⟩ := List.mem_map.1 hm
  unfold lookT at h
  have := List.find?_eq_none.1 (Option.map_eq_none_iff.1 h) q hq
  simp [e] at this
theorem look_nodup {l : List (Int × Ob)} (hn : (l.map (·.1)).Nodup) {d : Int} {ob : Ob} (h : (d, ob) ∈ l) : lookO l d = some ob := by
  induction l with
  | nil => cases h
  | cons q l ih =>
    simp only [List.map_cons, List.nodup_cons] at hn
    unfold lookO at ih ⊢
    rcases List.mem_cons.1 h with e | h2
    · subst e; simp
    · have : q.1 ≠ d := fun e => hn.1 (by rw [e]; exact List.mem_map.2 ⟨_, h2, rfl⟩)
      rw [List.find?_cons_of_neg (by simp [this])]
      exact ih hn.2 h2
theorem TxOnly.text {hs : HS} (T : TxOnly hs) {s : ByteArray} {d : Int} (h : (s, d) ∈ hs.texts) : textO hs (4, d) = (s, true) := by
  have hm : (d, strOb s) ∈ hs.objs := by rw [T.objs]; exact List.mem_map.2 ⟨_, h, rfl⟩
  have hl := look_nodup T.good.keys hm
  unfold textO ofO findO
  simp only [if_true, hl]
  have : holdsK 4 = true := by decide
  simp only [this, if_true]
  rfl
theorem strO_plain {hs : HS} (T : TxOnly hs) (s : ByteArray) (h1 : s.1.toList.length ≤ 1000) (h2 : hs.texts.length ≤ 200) :
    ∃ d, (strO hs s).2.2 = 0 ∧ (strO hs s).2.1 = (4, d) ∧ TxOnly (strO hs s).1 ∧ (s, d) ∈ (strO hs s).1.texts ∧
      ((lookT hs.texts s = some d ∧ (strO hs s).1 = hs) ∨ (lookT hs.texts s = none ∧ (strO hs s).1.texts = hs.texts ++ [(s, d)])) := by
  cases hd : lookT hs.texts s with
  | some d =>
    have e : strO hs s = (hs, (4, d), 0) := by unfold strO; rw [hd]
    rw [e]
    exact ⟨d, rfl, rfl, T, lookT_mem hd, .inl ⟨rfl, rfl⟩⟩
  | none =>
    obtain ⟨sz, hsz⟩ : ∃ sz, (1 : Int) + Int.ofNat s.1.toList.length / 16 = sz := ⟨_, rfl⟩
    have hsz0 : 0 ≤ sz := by simp only [Int.ofNat_eq_natCast] at hsz; omega
    have hsz1 : sz ≤ 64 := by simp only [Int.ofNat_eq_natCast] at hsz; omega
    have hG := T.good
    have hu := T.used; have hz := T.sizes; have hmx := T.max
    have hcnt := hG.cnt
    have hol : hs.objs.length = hs.texts.length := by rw [T.objs, List.length_map]
    have hroom : ¬ hs.max < hs.pool.used + sz := by omega
    have hc : hs.pool.count < 65536 := by omega
    obtain ⟨t1, t2, t3⟩ := take_new hG hsz0 hroom hc
    obtain ⟨u1, u2⟩ := takeP_le hG hsz0 hroom hc
    obtain ⟨_, v2, _⟩ := takeP_has hG hsz0 hroom hc
    have hg2 := hG.add (strOb s) hsz0 hc
    have hA : addO hs (strOb s) sz = ({ hs with pool := (takeP hs.pool sz).1, objs := hs.objs ++ [((takeP hs.pool sz).2.1, strOb s)] }, (4, (takeP hs.pool sz).2.1), 0) := by
      unfold addO
      rw [if_neg hroom]
      have h4 : serialK (strOb s).kind = false := rfl
      have hn : noteL hs (takeP hs.pool sz).2.1 = hs.noted := by unfold noteL; rw [T.watch]; rfl
      rw [h4, hn]
      rfl
    have e : strO hs s = ({ hs with pool := (takeP hs.pool sz).1, objs := hs.objs ++ [((takeP hs.pool sz).2.1, strOb s)], texts := hs.texts ++ [(s, (takeP hs.pool sz).2.1)] }, (4, (takeP hs.pool sz).2.1), 0) := by
      unfold strO
      simp only [hd, hsz, hA]
      rfl
    rw [hA] at hg2
    rw [e]
    refine ⟨_, rfl, rfl, ⟨⟨hg2.pool, hg2.bound, hg2.max, hg2.keys, hg2.ids, hg2.cnt, hg2.made0⟩, T.watch, ?_, ?_, hmx, ?_, ?_, T.made⟩, by simp, .inr ⟨rfl, rfl⟩⟩
    · simp only [T.objs, List.map_append, List.map_cons, List.map_nil]
    · simp only [List.map_append, List.map_cons, List.map_nil]
      refine List.nodup_append.2 ⟨T.nd, by simp, fun a ha b hb e2 => ?_⟩
      simp only [List.mem_singleton] at hb
      subst hb
      rw [e2] at ha
      exact lookT_none hd ha
    · simp only [u1, List.length_append, List.length_cons, List.length_nil]; omega
    · simp only [List.length_append, List.length_cons, List.length_nil]; omega
/-- the map of texts that were seen -/
abbrev seenKV (l : List (ByteArray × Int)) : List (ByteArray × Value) := l.map fun q => (q.1, .agg #[.int .u8 4, .int .i64 q.2])
theorem kv_seen (s : ByteArray) : ∀ (l : List (ByteArray × Int)) (i : Nat), (lookT l s = none ∧ findK s (seenKV l) i = none) ∨ ∃ d r, lookT l s = some d ∧ l[r]? = some (s, d) ∧ findK s (seenKV l) i = some (i + r, .agg #[.int .u8 4, .int .i64 d])
  | [], i => .inl ⟨rfl, rfl⟩
  | q :: l, i => by
    by_cases e : q.1 = s
    · refine .inr ⟨q.2, 0, ?_, ?_, ?_⟩
      · unfold lookT; rw [List.find?_cons_of_pos (by simp [e])]; rfl
      · rw [← e]; rfl
      · simp only [seenKV, List.map_cons, findK, e, if_true, Nat.add_zero]
    · rcases kv_seen s l (i + 1) with ⟨h1, h2⟩ | ⟨d, r, h1, h2, h3⟩
      · refine .inl ⟨?_, ?_⟩
        · unfold lookT at h1 ⊢; rw [List.find?_cons_of_neg (by simp [e])]; exact h1
        · simp only [seenKV, List.map_cons, findK]; rw [if_neg (fun h => e h.symm)]; exact h2
      · refine .inr ⟨d, r + 1, ?_, ?_, ?_⟩
        · unfold lookT at h1 ⊢; rw [List.find?_cons_of_neg (by simp [e])]; exact h1
        · simpa using h2
        · simp only [seenKV, List.map_cons, findK]; rw [if_neg (fun h => e h.symm), show i + (r + 1) = i + 1 + r from by omega]; exact h3
theorem put_seen (l : List (ByteArray × Int)) (s : ByteArray) (d : Int) (h : lookT l s = some d ∨ lookT l s = none) : putK s (.agg #[.int .u8 4, .int .i64 d]) (seenKV l) = seenKV (if lookT l s = none then l ++ [(s, d)] else l) := by
  unfold putK
  rcases kv_seen s l 0 with ⟨h1, h2⟩ | ⟨d', r, h1, h2, h3⟩
  · rw [h2, if_pos h1]; simp
  · rw [h3, if_neg (by rw [h1]; simp)]
    have e : d' = d := by
      rcases h with h | h
      · rw [h1] at h; cases h; rfl
      · rw [h1] at h; cases h
    subst e
    simp only [Nat.zero_add]
    refine List.ext_getElem? fun j => ?_
    rw [List.getElem?_set]
    by_cases e : r = j
    · subst e
      have hr := (List.getElem?_eq_some_iff.1 h2).1
      rw [if_pos rfl, if_pos (by simpa using hr), List.getElem?_map, h2]; rfl
    · rw [if_neg e]
end Go.Proofs.Ythnlkahgmbadoaa
