/- Take, Give, Resize of a good pool, each in one contract. -/
import Derived.Test.YtmflapajjghpmaaPoolTake2
import Derived.Test.YtmflapajjghpmaaPoolKeep
import Derived.Test.YtmflapajjghpmaaPoolRes
import Derived.Test.YtmflapajjghpmaaPoolGive
namespace Go.Proofs.Ytmflapajjghpmaa
open Go.RowKit

theorem PoolStep.stay {w w' : World} {b : Nat} {sv fv : Value} {st : PS} (h : PoolIs w b st sv fv) (ht : Touch (fun _ => False) w w') : PoolStep w w' b sv fv st :=
  ⟨sv, fv, h.same ht, fun _ hk => .inl hk, ht.mono (fun _ h => h.elim)⟩

theorem take_any (b : Nat) (st : PS) (sv fv : Value) (size : Int) (w : World) (h : PoolIs w b st sv fv) (hG : Good st) :
    Calls Try.prog 19 #[.pointer (some ⟨b, 0, none⟩), .int .i64 size] w fun e w' => e = .returned (.tuple #[.int .i64 (takeP st size).2.1, .int .i64 (takeP st size).2.2]) ∧ PoolStep w w' b sv fv (takeP st size).1 := by
  obtain ⟨bd, us, ct, sz, fr⟩ := st
  have u0 := hG.used0
  have u1 := hG.le
  have u2 := hG.b1
  have cn := hG.cnt
  have ln := hG.len
  dsimp only at u0 u1 u2 cn ln
  by_cases h0 : size < 0
  · have e : takeP ⟨bd, us, ct, sz, fr⟩ size = (⟨bd, us, ct, sz, fr⟩, 0, 2) := if_pos h0
    rw [e]
    refine (take_neg b bd us ct sz fr sv fv size w h h0).mono ?_
    rintro e w' ⟨rfl, rfl⟩
    exact ⟨rfl, PoolStep.stay h (Touch.refl _ _)⟩
  by_cases h1 : bd - us < size ∨ ct = 65536
  · have e : takeP ⟨bd, us, ct, sz, fr⟩ size = (⟨bd, us, ct, sz, fr⟩, 0, 5) := by unfold takeP; rw [if_neg h0, if_pos h1]
    rw [e]
    refine (take_full b bd us ct sz fr sv fv size w h h0 ⟨u0, u1, u2⟩ h1).mono ?_
    rintro e w' ⟨rfl, q, rfl⟩
    exact ⟨rfl, PoolStep.stay h ((Touch.refl _ _).drewN _)⟩
  have h1a : ¬ bd - us < size := fun h => h1 (.inl h)
  have h1b : ¬ ct = 65536 := fun h => h1 (.inr h)
  by_cases h2 : fr.length = 0
  · have e : takeP ⟨bd, us, ct, sz, fr⟩ size = ((⟨bd, us + size, ct + 1, sz ++ [size], fr⟩ : PS), (sz.length : Int) + 1, (0 : Int)) := by unfold takeP; rw [if_neg h0, if_neg h1, if_pos h2]
    rw [e]
    obtain rfl := List.length_eq_zero_iff.1 h2
    exact take_new b bd us ct sz sv fv size w h h0 ⟨u0, u1, u2⟩ h1a (by omega) cn.1 ln
  · obtain ⟨j, hj, hjl, _, _⟩ := hG.top (by dsimp only; omega)
    dsimp only at hj hjl
    have e : takeP ⟨bd, us, ct, sz, fr⟩ size = ((⟨bd, us + size, ct + 1, sz.set j size, heapPop fr⟩ : PS), (j : Int) + 1, (0 : Int)) := by
      unfold takeP; rw [if_neg h0, if_neg h1, if_neg h2]
      dsimp only
      rw [hj, show ((j : Int) + 1 - 1).toNat = j from by omega]
    rw [e]
    exact take_old b j (fr.length - 1) bd us ct sz fr sv fv size w h h0 ⟨u0, u1, u2⟩ h1a (by omega) cn.1 ln (by omega) (by omega) hjl hj

theorem give_any (b : Nat) (st : PS) (sv fv : Value) (id : Int) (w : World) (h : PoolIs w b st sv fv) (hG : Good st) :
    Calls Try.prog 17 #[.pointer (some ⟨b, 0, none⟩), .int .i64 id] w fun e w' => e = .returned (.int .i64 (giveP st id).2) ∧ PoolStep w w' b sv fv (giveP st id).1 := by
  cases hh : hasP st id
  · have e : giveP st id = (st, 2) := by unfold giveP; rw [hh]; rfl
    rw [e]
    refine (give_no b st sv fv id w h hG.len hh).mono ?_
    rintro e w' ⟨rfl, rfl⟩
    exact ⟨rfl, PoolStep.stay h (Touch.refl _ _)⟩
  · obtain ⟨j, rfl, hj, hjl, hj0⟩ := hasP_parts hh
    obtain ⟨bd, us, ct, sz, fr⟩ := st
    have cn := hG.cnt
    have ln := hG.len
    have c1 := hG.count
    have e : giveP ⟨bd, us, ct, sz, fr⟩ ((j : Int) + 1) = (⟨bd, us - sz.getD j 0, ct - 1, sz.set j (-1), heapPush fr ((j : Int) + 1)⟩, 0) := by
      unfold giveP
      rw [if_pos hh]
      dsimp only
      rw [hj]
    rw [e]
    have hg := free_gone sz 0 j (-1) hjl hj0 (by omega)
    have hl := hg.length_eq
    have a2 := ids_free_len (sz.set j (-1)) 0
    have a1 := ids_free_len sz 0
    have a3 := hG.free.length_eq
    simp only [List.length_cons, List.length_set] at hl a2
    dsimp only at cn ln c1 a3 hjl
    refine (give_yes b j bd us ct sz fr sv fv w h hG hjl hj0 (by omega) (by omega)).mono ?_
    rintro e w' ⟨rfl, fv', h', hm, ht⟩
    refine ⟨rfl, sv, fv', h', ?_, ht⟩
    rintro k (rfl | hk | hk)
    · exact .inl (.inl rfl)
    · exact .inl (.inr (.inl hk))
    · rcases hm with h | h
      · exact .inl (.inr (.inr (h ▸ hk)))
      · exact .inr (h k hk)

theorem resize_step (b : Nat) (st : PS) (sv fv : Value) (id size : Int) (w : World) (h : PoolIs w b st sv fv) (hG : Good st) :
    Calls Try.prog 18 #[.pointer (some ⟨b, 0, none⟩), .int .i64 id, .int .i64 size] w fun e w' => e = .returned (.int .i64 (resizeP st id size).2) ∧ PoolStep w w' b sv fv (resizeP st id size).1 := by
  refine (resize_any b st sv fv id size w h hG).mono ?_
  rintro e w' ⟨rfl, h', ht⟩
  exact ⟨rfl, sv, fv, h', fun _ hk => .inl hk, ht⟩
end Go.Proofs.Ytmflapajjghpmaa
