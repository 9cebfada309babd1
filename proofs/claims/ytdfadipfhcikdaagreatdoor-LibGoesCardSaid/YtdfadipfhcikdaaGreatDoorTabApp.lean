/- Running the abstract machine: append of one thing, a slice of one thing, a map's new key, cells written in a row. No program in sight. -/
import Derived.Test.YtdfadipfhcikdaaGreatDoorAmC
namespace Go.Proofs.YtdfadipfhcikdaaGreatDoor
open Go.RowKit
set_option linter.unusedSimpArgs false
set_option linter.unusedVariables false

/-- what append must know of its types: the elements' type, cells and bytes -/
def appOf (P : Program) (t u : TypeId) : Option (TypeId × Nat × Nat) := match P.underlying t, P.underlying u with
  | some (.slice el), some d => cond (srcT d) (match P.info? el with
    | some inf => match inf.zero with
      | some _ => some (el, inf.size, inf.bytes)
      | none => none
    | none => none) none
  | _, _ => none
section
variable {P : Program} {t u el : TypeId} {sz bs : Nat}
theorem appOf_at (h : appOf P t u = some (el, sz, bs)) (s x : Value) (fid : Nat) (H : AHeap) : aAppend P t u s x fid H = match addCells sz x H with
    | some (m, news) => match s with
        | .slice none 0 0 => cond (Nat.beq m 0) (some (s, H)) (cond (roomOk m bs) (some (.slice (some ⟨fid, 0, none⟩) m 0, newRowA fid news el sz H)) none)
        | .slice (some ⟨i, o, none⟩) n c => cond (Nat.beq m 0) (some (s, H)) (match H.get i with
          | some (.row cells elem esz own) => match cut cells o (n * sz) with
            | some olds => cond (roomOk (n + m) bs) (match c with
              | 0 => cond (own && (Nat.beq esz sz && (Nat.beq elem el && news.all oneV))) (some (.slice (some ⟨fid, 0, none⟩) (n + m) 0, (H.upd i none).add fid (.row (olds ++ news) el sz true))) none
              | c + 1 => cond (Nat.ble (n + m) c) (cond own ((aStoreCells i elem esz H cells (o + n * sz) news).map fun H' => (.slice (some ⟨i, o, none⟩) (n + m) (c + 1), H')) none)
                  (some (.slice (some ⟨fid, 0, none⟩) (n + m) 0, newRowA fid (olds ++ news) el sz H))) none
            | none => none
          | _ => none)
        | _ => none
    | none => none := by
  unfold appOf at h
  split at h
  · rename_i e d h1 h2
    cases hd : srcT d with
    | false => rw [hd] at h; cases h
    | true =>
      rw [hd] at h
      simp only [cond] at h
      split at h
      · rename_i inf h3
        split at h
        · rename_i z h4
          cases h
          simp only [aAppend, h1, h2, hd, cond, h3, h4]
          cases addCells inf.size x H with
          | none => rfl
          | some r => rfl
        · cases h
      · cases h
  · cases h
theorem app_none (h : appOf P t u = some (el, sz, bs)) {x : Value} {fid m : Nat} {H : AHeap} {news : List Value} (hx : addCells sz x H = some (m + 1, news)) (hr : roomOk (m + 1) bs = true) :
    aAppend P t u (.slice none 0 0) x fid H = some (.slice (some ⟨fid, 0, none⟩) (m + 1) 0, newRowA fid news el sz H) := by
  rw [appOf_at h, hx]
  simp only [hr, cond]; rfl
theorem app_row (h : appOf P t u = some (el, sz, bs)) {x : Value} {fid m i o n : Nat} {H : AHeap} {news cells olds : List Value} (hx : addCells sz x H = some (m + 1, news)) (hg : H.get i = some (.row cells el sz true)) (hc : cut cells o (n * sz) = some olds) (hr : roomOk (n + (m + 1)) bs = true) (ho : news.all oneV = true) :
    aAppend P t u (.slice (some ⟨i, o, none⟩) n 0) x fid H = some (.slice (some ⟨fid, 0, none⟩) (n + (m + 1)) 0, (H.upd i none).add fid (.row (olds ++ news) el sz true)) := by
  rw [appOf_at h, hx]
  simp only [hg, hc, hr, ho, Nat.beq_refl, Bool.and_self, cond]; rfl
end

/-- a slice put together of given parts -/
def buildSliceV (P : Program) (t : TypeId) (n : Nat) (ps : List (Nat × Value)) (fid : Nat) (H : AHeap) : Option (Value × AHeap) :=
  aBuildSlice P (fun | .const v => v | _ => undef) t n (ps.map fun p => (p.1, Operand.const p.2)).toArray fid H
theorem aBuildSlice_eq (P : Program) (ρ : Operand → Value) (t : TypeId) (n : Nat) (ps : Array (Nat × Operand)) (fid : Nat) (H : AHeap) : aBuildSlice P ρ t n ps fid H = buildSliceV P t n (ps.toList.map fun p => (p.1, ρ p.2)) fid H := by
  have h : (((ps.toList.map fun p => (p.1, ρ p.2)).map fun p => (p.1, Operand.const p.2)).toArray.map fun (p : Nat × Operand) => match p with | (i, x) => (i, (fun | Operand.const v => v | _ => undef : Operand → Value) x)) = ps.map fun (p : Nat × Operand) => match p with | (i, x) => (i, ρ x) := by
    apply Array.ext'
    simp
  unfold buildSliceV aBuildSlice
  rw [h]
theorem st_buildSliceV {P : Program} {call : CallFn} {ρ : Operand → Value} {fid : Nat} {H : AHeap} {R : Value × AHeap → Prop} {d : Option Tmp} {ty t n : Nat} {ps : String} {af : Array Edge} {g : Option (Nat × Bool)} {parts : Array (Nat × Operand)} :
    Got (aStep P call ρ ⟨d, .buildSlice t n parts, ty, ps, af, g⟩ fid H) R = Got (buildSliceV P t n (parts.toList.map fun p => (p.1, ρ p.2)) fid H) R := by rw [st_buildSlice, aBuildSlice_eq]

/-- a map's new key -/
theorem mapUpdate_add {P : Program} {t mt el : TypeId} {K : Type} [DecidableEq K] {f : K → Value} (h : KeyBy P t f) (hm : P.underlying mt = some (.map t el)) {H : AHeap} {i c : Nat} {es : List MapEntry} {kv : List (K × Value)} (hg : H.get i = some (.map es c)) (hi : MapIs f es kv) (x : K) (v : Value) (hn : findK x kv 0 = none) :
    aMapUpdate P mt (.map (some i)) (f x) v H = some (H.upd i (some (.map (es ++ [{ key := f x, val := v, born := c }]) (c + 1)))) := by
  simp only [aMapUpdate, hm, h.flat, cond, hg, h.chk, findKey_by h x hi, hn]
theorem MapIs.snoc {K : Type} {f : K → Value} {es : List MapEntry} {kv : List (K × Value)} (hi : MapIs f es kv) (x : K) (v : Value) (c : Nat) : MapIs f (es ++ [{ key := f x, val := v, born := c }]) (kv ++ [(x, v)]) := by
  unfold MapIs at hi ⊢
  rw [List.map_append, List.map_append, hi]; rfl

/-- cells written one behind the other -/
theorem store_all (i : Nat) (e z : Nat) : ∀ (vs : List Value) (H : AHeap) (pre mid post : List Value), mid.length = vs.length → vs.all oneV = true → H.get i = some (.row (pre ++ (mid ++ post)) e z true) →
    Got (aStoreCells i e z H (pre ++ (mid ++ post)) pre.length vs) fun H' => H'.next = H.next ∧ H'.get i = some (.row (pre ++ (vs ++ post)) e z true) ∧ (∀ b, b ≠ i → H'.get b = H.get b) ∧ ∀ k, i < k → (vs ≠ [] ∨ H.log.all (fun b => Nat.ble k b) = false) → H'.log.all (fun b => Nat.ble k b) = false
  | [], H, pre, mid, post, hl, _, hg => by
    have hm : mid = [] := List.eq_nil_of_length_eq_zero hl
    subst hm
    rw [jE, qL]
    exact ⟨rfl, hg, fun _ _ => rfl, fun k _ h => h.resolve_left (fun h => h rfl)⟩
  | v :: vs, H, pre, mid, post, hl, ho, hg => by
    cases mid with
    | nil => simp at hl
    | cons a mid =>
      rw [List.all_cons, Bool.and_eq_true] at ho
      rw [jF, if_pos ⟨by simp, ho.1⟩]
      have hset : (pre ++ (a :: mid ++ post)).set pre.length v = (pre ++ [v]) ++ (mid ++ post) := by
        rw [List.set_append_right _ _ (Nat.le_refl _)]; simp
      rw [hset]
      have ih := store_all i e z vs (H.upd i (some (.row ((pre ++ [v]) ++ (mid ++ post)) e z true))) (pre ++ [v]) mid post (by simpa using hl) ho.2 (by rw [AHeap.get_upd, if_pos rfl])
      rw [show (pre ++ [v]).length = pre.length + 1 from by simp] at ih
      refine ih.mono fun H' ⟨h1, h2, h3, h4⟩ => ⟨h1, ?_, fun b hb => ?_, fun k hk _ => h4 k hk (.inr ?_)⟩
      · rw [h2]; simp
      · rw [h3 b hb, AHeap.get_upd, if_neg hb]
      · show (noteId i H.log).all _ = false
        rw [js, show Nat.ble k i = false from by
          cases e : Nat.ble k i with
          | false => rfl
          | true => rw [Nat.ble_eq] at e; omega]
        rfl
theorem zero_cells_all {z : Array Value} (h : z.toList.all oneV = true) (n : Nat) : (Builtin.zeroCells z n).toList.all oneV = true ∧ (Builtin.zeroCells z n).toList.length = n * z.size := by
  constructor
  · rw [List.all_eq_true]
    intro x hx
    unfold Builtin.zeroCells at hx
    rw [Array.toList_map, List.mem_map] at hx
    obtain ⟨j, hj, rfl⟩ := hx
    have hj : j < n * z.size := by simpa using hj
    have hz : 0 < z.size := by
      rcases Nat.eq_zero_or_pos z.size with h0 | h0
      · rw [h0] at hj; omega
      · exact h0
    have hlt : j % z.size < z.size := Nat.mod_lt _ hz
    rw [getElem!_pos z _ hlt]
    exact List.all_eq_true.1 h _ (Array.mem_toList_iff.2 (Array.getElem_mem hlt))
  · unfold Builtin.zeroCells; simp
/-- what clear writes in a slice's place -/
def clrOf (P : Program) (t : TypeId) : Option (Array Value) := match P.underlying t with
  | some (.slice el) => match P.info? el with
    | some inf => match inf.zero with
      | some z => cond (flat2 z) (some z.cells) none
      | none => none
    | none => none
  | _ => none
theorem aClear_row {P : Program} {t i o n c e z : Nat} {H : AHeap} {cells : List Value} {zs : Array Value} (h : clrOf P t = some zs) (hg : H.get i = some (.row cells e z true)) :
    aClear P t (.slice (some ⟨i, o, none⟩) (n + 1) c) H = aStoreCells i e z H cells o (Builtin.zeroCells zs (n + 1)).toList := by
  unfold clrOf at h
  split at h
  · rename_i el hu
    split at h
    · rename_i inf hi
      split at h
      · rename_i zv hz
        cases hf : flat2 zv with
        | false => rw [hf] at h; cases h
        | true =>
          rw [hf] at h
          simp only [cond, Option.some.injEq] at h
          subst h
          simp only [aClear, hu, hi, hg, hz, hf, cond]
      · cases h
    · cases h
  · cases h
/-- the first ones of a slice -/
theorem slice_to {P : Program} {t : TypeId} {e : Nat} (he : elemOf P t = some (none, e)) {j o n i : Nat} {cells : List Value} {et : TypeId} {w : Bool} {H : AHeap} (hg : H.get j = some (.row cells et e w)) (hi : i ≤ n) {k : IntKind} :
    aSlice P t (.slice (some ⟨j, o, none⟩) n 0) none (some (.int k (.ofNat i))) none H = some (.slice (some ⟨j, o, none⟩) i 0) := by
  unfold elemOf at he
  split at he
  · rename_i el hu
    obtain ⟨inf, h1, h2⟩ := Option.map_eq_some_iff.1 he
    cases h2
    have hb : Nat.ble i n = true := Nat.ble_eq ▸ hi
    have hk : capKnown inf.size j H = true := by simp [capKnown, hg]
    have z0 : Nat.ble 0 i = true := Nat.ble_eq ▸ Nat.zero_le _
    simp only [aSlice, hu, h1, boundOf, Option.getD_some, Option.getD_none, hb, jt, z0, Option.isNone_none, Bool.true_or, Bool.and_self, cond, hk, Nat.zero_mul, Nat.add_zero, Nat.sub_zero]
    cases h : Nat.beq 0 i with
    | true => rw [← Nat.eq_of_beq_eq_true h]
    | false => rfl
  · obtain ⟨inf, h1, h2⟩ := Option.map_eq_some_iff.1 he
    cases h2
  · cases he
end Go.Proofs.YtdfadipfhcikdaaGreatDoor
