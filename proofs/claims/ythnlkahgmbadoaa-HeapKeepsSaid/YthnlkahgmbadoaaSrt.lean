/- The library's sort, keys and collecting at this program: the shelf's contracts; the sort as a help of the machine. -/
import Derived.Test.YthnlkahgmbadoaaHpVals
import Derived.Test.YthnlkahgmbadoaaProg
import Derived.Test.YthnlkahgmbadoaaSrtLay
import Derived.KernelRfl
namespace Go.Proofs.Ythnlkahgmbadoaa
open Go.RowKit Go.Sort
set_option linter.unusedSimpArgs false
set_option linter.unusedVariables false

def sortO : Helps := fun f => cond (Nat.beq f 41) (some sortFn) none

theorem sortO_sound : CallSound Try.prog [] (helpFn sortO) := fun f args H v H' h hwf => by
  simp only [helpFn, sortO] at h
  cases hg : Nat.beq f 41 with
  | false => rw [hg] at h; cases h
  | true =>
    have hg := Nat.eq_of_beq_eq_true hg
    subst hg
    simp only [Nat.beq_refl, cond] at h
    unfold sortFn at h
    split at h
    · cases h
      refine ⟨LogLe.refl _ _, fun β w args' hr hglob hargs => ?_⟩
      obtain ⟨hl, ha⟩ := hargs
      match args', hl, ha with
      | [y], _, ha =>
        have h0 := ha 0 _ _ rfl rfl
        cases h0
        refine (@AnyM.slices_Sort_int_none _ _ Try.sortZ none 0 w).mono ?_
        rintro e w' ⟨rfl, rfl⟩
        exact ⟨_, β, rfl, (flat_vr (v := .tuple #[]) rfl β).1, .refl hr, fun _ _ => rfl⟩
    · rename_i i n c
      split at h
      · rename_i cells elem esz hi
        cases hc : (Nat.beq cells.length n && (Nat.blt 0 n && Nat.blt n 4611686018427387904)) with
        | false => rw [hc] at h; cases h
        | true =>
          rw [hc] at h
          simp only [cond] at h
          obtain ⟨xs, hx, he⟩ := Option.map_eq_some_iff.1 h
          cases he
          obtain rfl := intsOf_some _ _ hx
          simp only [Bool.and_eq_true, Nat.blt_eq, Nat.beq_eq, List.length_map] at hc
          obtain ⟨rfl, hn0, hn1⟩ := hc
          refine ⟨?_, fun β w args' hr hglob hargs => ?_⟩
          · have hlt : i < H.next := by
              rcases Nat.lt_or_ge i H.next with h1 | h1
              · exact h1
              · rw [hwf i h1] at hi; cases hi
            exact logLe_upd hi hlt _
          · obtain ⟨hl, ha⟩ := hargs
            match args', hl, ha with
            | [y], _, ha =>
              have h0 := ha 0 _ _ rfl rfl
              generalize hgm : xs.length = m at h0
              cases h0 with
              | @slice _ _ _ _ c' s hs hn hm hcc =>
                subst hgm
                have hH := row_holds hr hi hs
                refine (@AnyM.slices_Sort_int _ _ Try.sortZ s.blk s.shift c' xs w hH (hr.blk _ _ hs) hn1).mono ?_
                rintro e w' ⟨rfl, k, os, rfl⟩
                rw [merge_eq]
                exact ⟨_, β, rfl, (flat_vr (v := .tuple #[]) rfl β).1, put_goes hr hi hs (sortI_length xs) k os, fun _ _ => rfl⟩
              | sliceE => omega
      · cases h
    · cases h
end Go.Proofs.Ythnlkahgmbadoaa
