/- strings.Join as a help of the machine. -/
import Derived.Test.YtdfadipfhcikdaaGreatDoorInsH
import Derived.Test.YtdfadipfhcikdaaGreatDoorStrLay
import Derived.WalkKit
import Derived.Lib.Walk
import Derived.KernelRfl
set_option linter.unusedSimpArgs false
set_option linter.unusedVariables false
namespace Go.Proofs.YtdfadipfhcikdaaGreatDoor
open Go.RowKit

def strsOf : List Value → Option (List ByteArray)
  | [] => some []
  | .string s :: l => (strsOf l).map (s :: ·)
  | _ => none
theorem strsOf_some : ∀ (l : List Value) (xs : List ByteArray), strsOf l = some xs → l = xs.map .string
  | [], xs, h => by simp only [strsOf, Option.some.injEq] at h; subst h; rfl
  | v :: l, xs, h => by
    cases v with
    | string s =>
      obtain ⟨ys, hy, rfl⟩ := Option.map_eq_some_iff.1 h
      rw [List.map_cons, strsOf_some l ys hy]
    | _ => simp [strsOf] at h
def joined (xs : List ByteArray) (sep : ByteArray) : List UInt8 := Lib.join (xs.map (·.data.toList)) sep.data.toList
def joinFn (args : List Value) (H : AHeap) : Option (Value × AHeap) := match args with
  | [.slice (some ⟨i, p, none⟩) n _, .string sep] => match H.get i with
    | some (.row ci _ _ _) => match cut ci p n with
      | some l => match strsOf l with
        | some xs => cond (Nat.ble n 1000000 && Nat.ble (joined xs sep).length 1000000) (some (.string ⟨(joined xs sep).toArray⟩, H)) none
        | none => none
      | none => none
    | _ => none
  | _ => none
theorem join_owed {gs : List Nat} {args : List Value} {v : Value} {H H' : AHeap} (h : joinFn args H = some (v, H')) : Owed Tryz.prog gs 67 args H v H' := by
  unfold joinFn at h
  split at h
  · rename_i i p n c sep
    split at h
    · rename_i ci el ez w1 hi
      split at h
      · rename_i l hl
        split at h
        · rename_i xs hx
          cases hc : (Nat.ble n 1000000 && Nat.ble (joined xs sep).length 1000000) with
          | false => rw [hc] at h; cases h
          | true =>
            rw [hc] at h; cases h
            rw [Bool.and_eq_true, Nat.ble_eq, Nat.ble_eq] at hc
            have hlx := strsOf_some l xs hx
            refine ⟨LogLe.refl _ _, fun β w args' hr hg hargs => ?_⟩
            obtain ⟨q1, q2, rfl⟩ : ∃ q1 q2, args' = [q1, q2] := by
              have hl := hargs.1
              match args', hl with
              | [q1, q2], _ => exact ⟨q1, q2, rfl⟩
            have h1 := hargs.2 0 _ _ rfl rfl
            have h2 := hargs.2 1 _ _ rfl rfl
            cases h2
            obtain ⟨s, bp, c', rfl, hs, hbp, hn⟩ : ∃ (s : Spot) (bp c' : Nat), q1 = .slice (some ⟨s.blk, bp, none⟩) n c' ∧ β i = some s ∧ (n = 0 ∨ bp = s.shift + p) ∧ n ≤ c' := by
              cases h1 with
              | slice hs hn hm hc => exact ⟨_, _, _, rfl, hs, .inr rfl, hn⟩
              | sliceE hs hm hc => exact ⟨_, _, _, rfl, hs, .inl rfl, Nat.zero_le _⟩
            obtain ⟨l', b1, b2, b3, b4⟩ := rel_piece hr hi hs hl
            have hxl : xs.length = n := by rw [hlx, List.length_map] at b2; exact b2
            have hcells : ∀ (j : Nat) x, xs[j]? = some x → w.cell? ⟨s.blk, bp + j, none⟩ = some (.string x) := fun j x hj => by
              have hjl := (List.getElem?_eq_some_iff.1 hj).1
              rcases hbp with h0 | rfl
              · omega
              have a1 : l[j]? = some (.string x) := by rw [hlx, List.getElem?_map, hj]; rfl
              have a2 : l'[j]? = some (l'[j]'(by omega)) := List.getElem?_eq_getElem (by omega)
              have a3 := b3 j _ a2
              have a4 := b4 j _ _ a1 a2
              rw [add_none] at a3
              rw [a3]
              generalize l'[j]'(by omega) = u at a4
              cases a4; rfl
            have hk := Tryz.strings_Join s.blk bp c' xs sep w hcells (hr.blk i s hs) (by omega) (by omega) (Nat.le_trans hc.2 (by decide))
            rw [hxl] at hk
            refine hk.mono fun e w' ⟨g1, g2⟩ => ?_
            exact ⟨_, β, g1, .string _, below_goes hr g2, fun _ _ => rfl⟩
        · cases h
      · cases h
    · cases h
  · cases h
def oneHelp (f : FuncId) (g : List Value → AHeap → Option (Value × AHeap)) : Helps := fun k => cond (Nat.beq k f) (some g) none
theorem oneHelp_sound {P : Program} {gs : List Nat} {f : FuncId} {g : List Value → AHeap → Option (Value × AHeap)} (ho : ∀ {args : List Value} {v : Value} {H H' : AHeap}, g args H = some (v, H') → Owed P gs f args H v H') : CallSound P gs (helpFn (oneHelp f g)) := fun k args H v H' h hwf => by
  unfold helpFn oneHelp at h
  cases hf : Nat.beq k f with
  | false => rw [hf] at h; cases h
  | true =>
    rw [hf] at h
    have := Nat.eq_of_beq_eq_true hf; subst this
    exact ho h
end Go.Proofs.YtdfadipfhcikdaaGreatDoor
