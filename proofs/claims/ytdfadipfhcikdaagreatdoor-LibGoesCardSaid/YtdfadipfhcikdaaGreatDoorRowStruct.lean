/- A slice of integers that a law is handed, as its row's proof tells of it. -/
import Derived.WalkKit
import Derived.ProofKit
import Derived.WideShapes
import Derived.Deep.Slices
import Derived.Deep.Fields
import Derived.ChangeSame
import Derived.ChangeArms
namespace Go.Proofs.YtdfadipfhcikdaaGreatDoor
open Go.RowKit
set_option linter.unusedSimpArgs false
set_option linter.unusedVariables false
/-- a slice of integers that came in: nil, or it leads to a row of 'cap' cells -/
def GuestRow (w : World) (a : Option Addr) (len cap : Nat) (zs : List Int) : Prop :=
  (a = none ∧ len = 0 ∧ cap = 0 ∧ zs = []) ∨
  ∃ x, a = some x ∧ len ≤ cap ∧ cap ≤ maxLen ∧ zs.length = cap ∧ (∀ i, i < zs.length → w.cell? (x.add i) = some (.int .i64 (zs.getD i 0))) ∧ (∀ n ∈ zs, (Lit.int .i64 n).wf = true) ∧ x.spot = none ∧ x.block < w.heap.size
theorem has_block {P : Program} {w : World} {base : Nat} {e : TypeId} {t : TypeId} {x : Addr} {len cap : Nat} (ht : P.underlying t = some (.slice e)) (h : Value.okWide P w .any base t (.slice (some x) len cap)) : x.spot = none ∧ x.block < w.heap.size := by
  simp only [Value.okWide, ht, Cell.okWide, Cell.ok, World.has] at h
  obtain ⟨_, _, _, hs, row, cells, hsh, _⟩ := h
  refine ⟨hs, ?_⟩
  unfold World.shape? at hsh
  rcases Nat.lt_or_ge x.block w.heap.size with h | h
  · exact h
  · rw [Array.getElem?_eq_none h] at hsh
    simp at hsh
end Go.Proofs.YtdfadipfhcikdaaGreatDoor

namespace Go.Proofs.YtdfadipfhcikdaaGreatDoor
open Go.RowKit Go.ChangeShapes Go.WideShapes Go.Deep
set_option linter.unusedSimpArgs false
set_option linter.unusedVariables false

/-- a slice that came in: nil, or it leads to cells that are known -/
def CellRow (w : World) (a : Option Addr) (len cap : Nat) (cells : List Value) : Prop :=
  (a = none ∧ len = 0 ∧ cap = 0 ∧ cells = []) ∨
  ∃ x, a = some x ∧ len ≤ cap ∧ cap ≤ maxLen ∧ (∀ i v, cells[i]? = some v → w.cell? (x.add i) = some v) ∧ x.spot = none ∧ x.block < w.heap.size
/-- the numbers of such a slice's structs, in the order of the fields -/
def intCells (ks : List IntKind) (zs : List (List Int)) : List Value := zs.flatMap fun z => (ks.zip z).map fun p => .int p.1 p.2
theorem intCells_at (ks : List IntKind) : ∀ (zs : List (List Int)) (hz : ∀ z ∈ zs, z.length = ks.length) (i : Nat) (v : Value), (intCells ks zs)[i]? = some v → ∃ q j z k x, i = q * ks.length + j ∧ j < ks.length ∧ zs[q]? = some z ∧ ks[j]? = some k ∧ z[j]? = some x ∧ v = .int k x
  | [], _, i, v, h => by simp [intCells] at h
  | z :: zs, hz, i, v, h => by
    have hl : z.length = ks.length := hz z (by simp)
    have hlen : ((ks.zip z).map fun p => Value.int p.1 p.2).length = ks.length := by simp [hl]
    rw [intCells, List.flatMap_cons] at h
    by_cases hi : i < ks.length
    · rw [List.getElem?_append_left (by rw [hlen]; exact hi), List.getElem?_map] at h
      obtain ⟨p, hp, rfl⟩ := Option.map_eq_some_iff.1 h
      rw [List.getElem?_zip_eq_some] at hp
      exact ⟨0, i, z, p.1, p.2, by omega, hi, rfl, hp.1, hp.2, rfl⟩
    · rw [List.getElem?_append_right (by rw [hlen]; omega), hlen] at h
      obtain ⟨q, j, z', k, x, h1, h2, h3, h4, h5, h6⟩ := intCells_at ks zs (fun z hz' => hz z (by simp [hz'])) (i - ks.length) v h
      refine ⟨q + 1, j, z', k, x, ?_, h2, by simpa using h3, h4, h5, h6⟩
      rw [Nat.succ_mul]; omega
theorem list_of {α : Type} {Q : Nat → α → Prop} : ∀ (n : Nat), (∀ i, i < n → ∃ x, Q i x) → ∃ l : List α, l.length = n ∧ ∀ i x, l[i]? = some x → Q i x
  | 0, _ => ⟨[], rfl, fun i x h => by simp at h⟩
  | n + 1, h => by
    obtain ⟨l, h1, h2⟩ := list_of n fun i hi => h i (by omega)
    obtain ⟨x, hx⟩ := h n (by omega)
    refine ⟨l ++ [x], by simp [h1], fun i y hy => ?_⟩
    by_cases hi : i < l.length
    · rw [List.getElem?_append_left hi] at hy; exact h2 i y hy
    · rw [List.getElem?_append_right (by omega)] at hy
      have hi0 : i - l.length = 0 := by
        by_cases e : i - l.length = 0
        · exact e
        · rw [List.getElem?_eq_none (by simp; omega)] at hy; cases hy
      rw [hi0] at hy
      simp at hy
      subst hy
      rw [show i = n from by omega]; exact hx
theorem struct_row {H : Type} {enc : TypeId × Value → H} {P : Program} {w : World} {base b0 : Nat} {spare : Nat → Bool} {held : Bool} {t e : TypeId} {fs : Array Field} {ks : List IntKind} {v : Value} {d : DataW H} {p : List MemPlace} (ht : P.underlying t = some (.slice e)) (he : P.underlying e = some (.struct fs))
    (hone : oneCellFields P fs = true) (hC : P.cellsOf e = fs.size) (hks : ks.length = fs.size) (hk : ∀ (j : Nat) (f : Field), fs[j]? = some f → ∃ k, ks[j]? = some k ∧ P.underlying f.type = some (.int k)) (h : DataW.Trod enc P w base spare held t v d p) (hv : Value.okWide P w .any b0 t v) :
    ∃ (a : Option Addr) (len cap : Nat) (zs : List (List Int)), v = .slice a len cap ∧ zs.length = len ∧ (∀ z ∈ zs, z.length = ks.length) ∧ (∀ z ∈ zs, ∀ (j : Nat) (k : IntKind) (x : Int), ks[j]? = some k → z[j]? = some x → (Lit.int k x).wf = true) ∧ CellRow w a len cap (intCells ks zs) := by
  obtain ⟨a, len, cap, rfl⟩ := okWide_slice ht hv
  obtain ⟨fuel, h⟩ := h
  rcases open_slice ht h with ⟨hcs, _⟩ | ⟨x, len', cap', m, n, D, Pl, hcs, hb, hle, hcap, hmm, _, hi⟩
  · have hcs : [Value.slice a len cap] = [.slice none 0 0] := hcs
    cases hcs
    exact ⟨_, _, _, [], rfl, rfl, fun z hz => (by cases hz), fun z hz => (by cases hz), .inl ⟨rfl, rfl, rfl, rfl⟩⟩
  · have hcs : [Value.slice a len cap] = [.slice (some x) len' cap'] := hcs
    cases hcs
    have hlm : len ≤ m := by rw [hmm]; split <;> omega
    have key : ∀ i, i < len → ∃ z : List Int, z.length = ks.length ∧ (∀ (j : Nat) (k : IntKind) (y : Int), ks[j]? = some k → z[j]? = some y → (Lit.int k y).wf = true ∧ w.cell? (x.add (i * fs.size + j)) = some (.int k y)) := by
      intro i hil
      obtain ⟨cs', hc, ht'⟩ := hi i (by omega)
      rw [hC] at hc
      obtain ⟨ys, n', _, _, hlen, hyl, hf⟩ := DataW.trod_struct he ht'
      obtain ⟨_, hcl, hat⟩ := World.cells?_some hc
      have one : ∀ j, j < ks.length → ∃ y : Int, ∀ k, ks[j]? = some k → (Lit.int k y).wf = true ∧ w.cell? (x.add (i * fs.size + j)) = some (.int k y) := by
        intro j hj
        have hjf : j < fs.size := by omega
        obtain ⟨k, hk1, hk2⟩ := hk j fs[j] (Array.getElem?_eq_getElem hjf)
        obtain ⟨ho, hk0⟩ := hone_of hone j fs[j] (Array.getElem?_eq_getElem hjf)
        have hjc : j < cs'.length := by omega
        have h1 := hf j fs[j] (Array.getElem?_eq_getElem hjf)
        rw [ho, hk0] at h1
        have hone' : (cs'.drop j).take 1 = [cs'[j]] := by
          rw [List.drop_eq_getElem_cons hjc]; rfl
        rw [hone', List.getElem?_eq_getElem (by omega)] at h1
        obtain ⟨y, e1, _, e3⟩ := DataW.trod_int hk2 h1
        refine ⟨y, fun k' hk' => ?_⟩
        rw [hk1] at hk'
        cases hk'
        refine ⟨e3, ?_⟩
        have hcell := hat j hjf
        rw [← add_add, hcell, List.getElem?_eq_getElem hjc]
        simp only [List.cons.injEq, and_true] at e1
        rw [e1]
      obtain ⟨z, hz1, hz2⟩ := list_of ks.length one
      exact ⟨z, hz1, fun j k y hkj hy => hz2 j y hy k hkj⟩
    obtain ⟨zs, h1, h2⟩ := list_of len key
    have hin : ∀ z ∈ zs, ∃ i, zs[i]? = some z := fun z hz => by
      obtain ⟨i, hi, e⟩ := List.getElem_of_mem hz
      exact ⟨i, by rw [List.getElem?_eq_getElem hi, e]⟩
    have hb := has_block ht hv
    refine ⟨_, _, _, zs, rfl, h1, fun z hz => ?_, fun z hz j k y hkj hy => ?_, .inr ⟨x, rfl, hle, hcap, fun i u hu => ?_, hb.1, hb.2⟩⟩
    · obtain ⟨i, hi⟩ := hin z hz
      exact (h2 i z hi).1
    · obtain ⟨i, hi⟩ := hin z hz
      exact ((h2 i z hi).2 j k y hkj hy).1
    · obtain ⟨q, j, z, k, y, rfl, hj, hz, hkj, hy, rfl⟩ := intCells_at ks zs (fun z hz => by obtain ⟨i, hi⟩ := hin z hz; exact (h2 i z hi).1) i u hu
      rw [hks]
      exact ((h2 q z hz).2 j k y hkj hy).2
end Go.Proofs.YtdfadipfhcikdaaGreatDoor

namespace Go.Proofs.YtdfadipfhcikdaaGreatDoor
open Go.RowKit Go.ChangeShapes Go.WideShapes Go.Deep
set_option linter.unusedSimpArgs false
set_option linter.unusedVariables false

/-- a slice of texts -/
theorem str_row {H : Type} {enc : TypeId × Value → H} {P : Program} {w : World} {base b0 : Nat} {spare : Nat → Bool} {held : Bool} {t e : TypeId} {v : Value} {d : DataW H} {p : List MemPlace} (ht : P.underlying t = some (.slice e)) (he : P.underlying e = some .string)
    (hC : P.cellsOf e = 1) (h : DataW.Trod enc P w base spare held t v d p) (hv : Value.okWide P w .any b0 t v) :
    ∃ (a : Option Addr) (len cap : Nat) (zs : List ByteArray), v = .slice a len cap ∧ zs.length = len ∧ CellRow w a len cap (zs.map Value.string) := by
  obtain ⟨a, len, cap, rfl⟩ := okWide_slice ht hv
  obtain ⟨fuel, h⟩ := h
  rcases open_slice1 ht hC h with ⟨hcs, _⟩ | ⟨x, len', cap', m, n, V, D, Pl, hcs, hb, hle, hcap, hmm, _, hi⟩
  · have hcs : [Value.slice a len cap] = [.slice none 0 0] := hcs
    cases hcs
    exact ⟨_, _, _, [], rfl, rfl, .inl ⟨rfl, rfl, rfl, rfl⟩⟩
  · have hcs : [Value.slice a len cap] = [.slice (some x) len' cap'] := hcs
    cases hcs
    have hlm : len ≤ m := by rw [hmm]; split <;> omega
    obtain ⟨zs, h1, h2⟩ := list_of (Q := fun i (s : ByteArray) => w.cell? (x.add i) = some (.string s)) len fun i hil => by
      obtain ⟨hc, hd⟩ := hi i (by omega)
      obtain ⟨s, e1, _⟩ := DataW.trod_string he hd
      simp only [List.cons.injEq, and_true] at e1
      rw [e1] at hc
      exact ⟨s, hc⟩
    have hb := has_block ht hv
    refine ⟨_, _, _, zs, rfl, h1, .inr ⟨x, rfl, hle, hcap, fun i u hu => ?_, hb.1, hb.2⟩⟩
    rw [List.getElem?_map] at hu
    obtain ⟨s, hs, rfl⟩ := Option.map_eq_some_iff.1 hu
    exact h2 i s hs
/-- kinds of a struct's fields -/
inductive SK where
  | i (k : IntKind)
  | s
def SK.ok : SK → Value → Prop
  | .i k, v => ∃ x, v = .int k x ∧ (Lit.int k x).wf = true
  | .s, v => ∃ b, v = .string b
def SK.is (P : Program) : SK → TypeId → Prop
  | .i k, t => P.underlying t = some (.int k)
  | .s, t => P.underlying t = some .string
theorem flat_at {m : Nat} : ∀ (zs : List (List Value)) (hz : ∀ z ∈ zs, z.length = m) (i : Nat) (v : Value), (zs.flatMap id)[i]? = some v → ∃ q j z, i = q * m + j ∧ j < m ∧ zs[q]? = some z ∧ z[j]? = some v
  | [], _, i, v, h => by simp at h
  | z :: zs, hz, i, v, h => by
    have hl : z.length = m := hz z (by simp)
    rw [List.flatMap_cons] at h
    by_cases hi : i < m
    · rw [List.getElem?_append_left (by simpa [hl] using hi)] at h
      exact ⟨0, i, z, by omega, hi, rfl, h⟩
    · rw [List.getElem?_append_right (by simp [hl]; omega)] at h
      obtain ⟨q, j, z', h1, h2, h3, h4⟩ := flat_at zs (fun z hz' => hz z (by simp [hz'])) (i - m) v (by simpa [hl] using h)
      refine ⟨q + 1, j, z', ?_, h2, by simpa using h3, h4⟩
      rw [Nat.succ_mul]; omega
/-- a slice of structs of numbers and texts -/
theorem mix_row {H : Type} {enc : TypeId × Value → H} {P : Program} {w : World} {base b0 : Nat} {spare : Nat → Bool} {held : Bool} {t e : TypeId} {fs : Array Field} {ks : List SK} {v : Value} {d : DataW H} {p : List MemPlace} (ht : P.underlying t = some (.slice e)) (he : P.underlying e = some (.struct fs))
    (hone : oneCellFields P fs = true) (hC : P.cellsOf e = fs.size) (hks : ks.length = fs.size) (hk : ∀ (j : Nat) (f : Field), fs[j]? = some f → ∃ k, ks[j]? = some k ∧ k.is P f.type) (h : DataW.Trod enc P w base spare held t v d p) (hv : Value.okWide P w .any b0 t v) :
    ∃ (a : Option Addr) (len cap : Nat) (zs : List (List Value)), v = .slice a len cap ∧ zs.length = len ∧ (∀ z ∈ zs, z.length = ks.length) ∧ (∀ z ∈ zs, ∀ (j : Nat) (k : SK) (x : Value), ks[j]? = some k → z[j]? = some x → k.ok x) ∧ CellRow w a len cap (zs.flatMap id) := by
  obtain ⟨a, len, cap, rfl⟩ := okWide_slice ht hv
  obtain ⟨fuel, h⟩ := h
  rcases open_slice ht h with ⟨hcs, _⟩ | ⟨x, len', cap', m, n, D, Pl, hcs, hb, hle, hcap, hmm, _, hi⟩
  · have hcs : [Value.slice a len cap] = [.slice none 0 0] := hcs
    cases hcs
    exact ⟨_, _, _, [], rfl, rfl, fun z hz => (by cases hz), fun z hz => (by cases hz), .inl ⟨rfl, rfl, rfl, rfl⟩⟩
  · have hcs : [Value.slice a len cap] = [.slice (some x) len' cap'] := hcs
    cases hcs
    have hlm : len ≤ m := by rw [hmm]; split <;> omega
    have key : ∀ i, i < len → ∃ z : List Value, z.length = ks.length ∧ (∀ (j : Nat) (k : SK) (y : Value), ks[j]? = some k → z[j]? = some y → k.ok y ∧ w.cell? (x.add (i * fs.size + j)) = some y) := by
      intro i hil
      obtain ⟨cs', hc, ht'⟩ := hi i (by omega)
      rw [hC] at hc
      obtain ⟨ys, n', _, _, hlen, hyl, hf⟩ := DataW.trod_struct he ht'
      obtain ⟨_, hcl, hat⟩ := World.cells?_some hc
      refine ⟨cs', by omega, fun j k y hkj hy => ?_⟩
      have hjc : j < cs'.length := (List.getElem?_eq_some_iff.1 hy).1
      have hjf : j < fs.size := by omega
      have ey : cs'[j] = y := by rw [List.getElem?_eq_getElem hjc] at hy; exact Option.some.inj hy
      obtain ⟨k', hk1, hk2⟩ := hk j fs[j] (Array.getElem?_eq_getElem hjf)
      rw [hkj] at hk1
      cases hk1
      obtain ⟨ho, hk0⟩ := hone_of hone j fs[j] (Array.getElem?_eq_getElem hjf)
      have h1 := hf j fs[j] (Array.getElem?_eq_getElem hjf)
      rw [ho, hk0] at h1
      have hone' : (cs'.drop j).take 1 = [cs'[j]] := by
        rw [List.drop_eq_getElem_cons hjc]; rfl
      rw [hone', List.getElem?_eq_getElem (by omega)] at h1
      refine ⟨?_, ?_⟩
      · cases k with
        | i kk =>
          obtain ⟨z, e1, _, e3⟩ := DataW.trod_int hk2 h1
          simp only [List.cons.injEq, and_true] at e1
          exact ⟨z, ey.symm.trans e1, e3⟩
        | s =>
          obtain ⟨z, e1, _⟩ := DataW.trod_string hk2 h1
          simp only [List.cons.injEq, and_true] at e1
          exact ⟨z, ey.symm.trans e1⟩
      · have hcell := hat j hjf
        rw [← add_add, hcell, List.getElem?_eq_getElem hjc, ey]
    obtain ⟨zs, h1, h2⟩ := list_of len key
    have hin : ∀ z ∈ zs, ∃ i, zs[i]? = some z := fun z hz => by
      obtain ⟨i, hi, e⟩ := List.getElem_of_mem hz
      exact ⟨i, by rw [List.getElem?_eq_getElem hi, e]⟩
    have hzl : ∀ z ∈ zs, z.length = ks.length := fun z hz => by obtain ⟨i, hi⟩ := hin z hz; exact (h2 i z hi).1
    have hb := has_block ht hv
    refine ⟨_, _, _, zs, rfl, h1, hzl, fun z hz j k y hkj hy => ?_, .inr ⟨x, rfl, hle, hcap, fun i u hu => ?_, hb.1, hb.2⟩⟩
    · obtain ⟨i, hi⟩ := hin z hz
      exact ((h2 i z hi).2 j k y hkj hy).1
    · obtain ⟨q, j, z, rfl, hj, hz, hu⟩ := flat_at zs hzl i u hu
      rw [hks]
      have hjk : j < ks.length := hj
      exact ((h2 q z hz).2 j ks[j] u (List.getElem?_eq_getElem hjk) hu).2
end Go.Proofs.YtdfadipfhcikdaaGreatDoor
