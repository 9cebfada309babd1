/- A region that draws its order: what an operation's class says. -/
import Derived.Test.YtmflapajjghpmaaAmDraw1
namespace Go.Proofs.Ytmflapajjghpmaa
open Go.RowKit

/-- what a class says of an operation that went from H (nothing noted) to H' -/
def ClassSays (P : Program) (call : CallFn) (ρ : Operand → Value) (o : Oper) (fid : Nat) (H H' : AHeap) (v : Value) : Class → Prop
  | .pure => H' = H ∧ ∀ G, aStep P call ρ o fid G = some (v, G)
  | .fresh f => f = fid ∧ ∃ ob, H' = H.add fid ob ∧ ∀ G, aStep P call ρ o fid G = some (v, G.add fid ob)
  | .load i => H' = H ∧ ∃ ob, H.get i = some ob ∧ ∀ G : AHeap, G.get i = some ob → aStep P call ρ o fid G = some (v, G)
  | .other q w => w = H'.log ∧ (q = true → H'.log = [] ∧ H'.next = H.next)

theorem map_fst {x : Option Value} {H H' : AHeap} {v : Value} (h : x.map (fun v => (v, H)) = some (v, H')) : H' = H ∧ ∀ G : AHeap, x.map (fun v => (v, G)) = some (v, G) := by
  obtain ⟨a, rfl, he⟩ := map_pair h
  cases he
  exact ⟨rfl, fun G => rfl⟩

theorem class_spec {P : Program} {call : CallFn} {ρ : Operand → Value} {o : Oper} {fid : Nat} {H H0 H' : AHeap} {v : Value} (hn : H0.next = H.next) (hl : H.log = []) (h : aStep P call ρ o fid H = some (v, H')) : ClassSays P call ρ o fid H H' v (classOf ρ fid H0 H' o.op) := by
  have last : ClassSays P call ρ o fid H H' v (.other (Nat.beq H0.next H'.next && H'.log.isEmpty) H'.log) := by
    refine ⟨rfl, fun hq => ?_⟩
    rw [Bool.and_eq_true] at hq
    have := Nat.eq_of_beq_eq_true hq.1
    exact ⟨List.isEmpty_iff.1 hq.2, by omega⟩
  have step : ∀ G, (∀ f as ts, o.op ≠ .call { callee := .value f, args := as, argTypes := ts }) → aStep P call ρ o fid G = aSimple P ρ o fid G := fun G hne => by
    unfold aStep
    split
    · rename_i f as ts ho; exact absurd ho (hne f as ts)
    · rfl
  obtain ⟨dst, op, ty, pos, af, gd⟩ := o
  cases op
  case call c => cases hc : c with
    | mk callee args tys => cases callee with
      | value f => subst hc; exact last
      | invoke r m => subst hc; exact last
      | builtin b =>
        subst hc
        cases b
        case len =>
          rw [step _ (by intro f as ts e; cases e)] at h
          simp only [aSimple] at h
          have hH : H' = H := by
            (repeat' split at h) <;> first | (cases h; done) | (cases h; rfl) | exact (map_fst h).1
          subst hH
          have quiet : ClassSays P call ρ ⟨dst, .call { callee := .builtin .len, args, argTypes := tys }, ty, pos, af, gd⟩ fid H' H' v (.other true []) := ⟨hl.symm, fun _ => ⟨hl, rfl⟩⟩
          simp only [classOf]
          split
          · rename_i x hx
            split
            · rename_i a n c hv
              refine ⟨rfl, fun G => ?_⟩
              rw [step _ (by intro f as ts e; cases e)]
              simp only [aSimple, hx] at h ⊢
              cases htl : tys.toList with
              | nil => simp only [htl] at h; cases h
              | cons t ts =>
                cases ts with
                | cons => simp only [htl] at h; cases h
                | nil =>
                  simp only [htl, hv] at h ⊢
                  have e : aLen P t (.slice a n c) G = aLen P t (.slice a n c) H' := by
                    unfold aLen
                    cases P.underlying t with
                    | none => rfl
                    | some d => cases d <;> rfl
                  rw [e]
                  cases hL : aLen P t (.slice a n c) H' with
                  | some u => rw [hL] at h; cases h; rfl
                  | none => rw [hL] at h; exact (map_fst h).2 G
            · rename_i s hv
              refine ⟨rfl, fun G => ?_⟩
              rw [step _ (by intro f as ts e; cases e)]
              simp only [aSimple, hx] at h ⊢
              cases htl : tys.toList with
              | nil => simp only [htl] at h; cases h
              | cons t ts =>
                cases ts with
                | cons => simp only [htl] at h; cases h
                | nil =>
                  simp only [htl, hv] at h ⊢
                  have e : aLen P t (.string s) G = aLen P t (.string s) H' := by
                    unfold aLen
                    cases P.underlying t with
                    | none => rfl
                    | some d => cases d <;> rfl
                  rw [e]
                  cases hL : aLen P t (.string s) H' with
                  | some u => rw [hL] at h; cases h; rfl
                  | none => rw [hL] at h; exact (map_fst h).2 G
            · exact quiet
          · exact quiet
        all_goals exact last
  case lookup t x k ok =>
    rw [step _ (by intro f as ts e; cases e)] at h
    simp only [aSimple] at h
    have hH := (map_fst h).1
    subst hH
    exact ⟨hl.symm, fun _ => ⟨hl, rfl⟩⟩
  case slice t x lo hi mx =>
    rw [step _ (by intro f as ts e; cases e)] at h
    simp only [aSimple] at h
    cases hx : ρ x
    case string s =>
      simp only [classOf, hx, ClassSays]
      rw [hx] at h
      obtain ⟨h1, h2⟩ := map_fst h
      refine ⟨h1, fun G => ?_⟩
      rw [step _ (by intro f as ts e; cases e)]
      simp only [aSimple, hx]
      exact h2 G
    all_goals
      have hH : H' = H := by rw [hx] at h; exact (map_fst h).1
      subst hH
      simp only [classOf, hx]
      exact ⟨hl.symm, fun _ => ⟨hl, rfl⟩⟩
  case convert src dst x =>
    rw [step _ (by intro f as ts e; cases e)] at h
    simp only [aSimple] at h
    cases hx : ρ x
    case slice a n c =>
      have hH : H' = H := by rw [hx] at h; exact (map_fst h).1
      subst hH
      simp only [classOf, hx]
      exact ⟨hl.symm, fun _ => ⟨hl, rfl⟩⟩
    all_goals
      simp only [classOf, hx, ClassSays]
      rw [hx] at h
      obtain ⟨h1, h2⟩ := map_fst h
      refine ⟨h1, fun G => ?_⟩
      rw [step _ (by intro f as ts e; cases e)]
      simp only [aSimple, hx]
      exact h2 G
  case load t x =>
    rw [step _ (by intro f as ts e; cases e)] at h
    simp only [aSimple] at h
    obtain ⟨h1, h2⟩ := map_fst h
    cases hx : ρ x with
    | pointer a =>
      cases a with
      | none => rw [hx] at h; simp [aLoad] at h
      | some a =>
        obtain ⟨i, p, sp⟩ := a
        cases sp with
        | some s => rw [hx] at h; simp [aLoad] at h
        | none =>
          simp only [classOf, hx, ClassSays]
          rw [hx] at h
          cases hg : H.get i with
          | none => simp [aLoad, hg] at h
          | some ob =>
            refine ⟨h1, ob, rfl, fun G hG => ?_⟩
            rw [step _ (by intro f as ts e; cases e)]
            simp only [aSimple, hx]
            have : aLoad P t (.pointer (some ⟨i, p, none⟩)) G = aLoad P t (.pointer (some ⟨i, p, none⟩)) H := by simp only [aLoad, hg, hG]
            rw [this]
            exact (map_fst h).2 G
    | _ => rw [hx] at h; simp [aLoad] at h
  case alloc t =>
    rw [step _ (by intro f as ts e; cases e)] at h
    simp only [aSimple] at h
    split at h
    · rename_i inf hi
      split at h
      · rename_i z hz
        cases hf : flat2 z with
        | false => rw [hf] at h; cases h
        | true =>
          rw [hf] at h; cases h
          refine ⟨rfl, _, rfl, fun G => ?_⟩
          rw [step _ (by intro f as ts e; cases e)]
          simp only [aSimple, hi, hz, hf]; rfl
      · cases h
    · cases h
  case box t x =>
    rw [step _ (by intro f as ts e; cases e)] at h
    simp only [aSimple] at h
    cases h
    refine ⟨rfl, _, rfl, fun G => ?_⟩
    rw [step _ (by intro f as ts e; cases e)]
    rfl
  case buildSlice t n ps =>
    rw [step _ (by intro f as ts e; cases e)] at h
    simp only [aSimple] at h
    have : ∃ ob, H' = H.add fid ob ∧ ∀ G, aBuildSlice P ρ t n ps fid G = some (v, G.add fid ob) := by
      unfold aBuildSlice at h ⊢
      split at h
      · split at h
        · split at h
          · rename_i z _
            simp only [Bool.cond_eq_ite] at h ⊢
            split at h
            · rename_i hcc
              split at h
              · cases h
                exact ⟨_, rfl, fun G => by simp only [*, if_true]; rfl⟩
              · cases h
            · cases h
          · cases h
        · cases h
      · cases h
    obtain ⟨ob, h1, h2⟩ := this
    refine ⟨rfl, ob, h1, fun G => ?_⟩
    rw [step _ (by intro f as ts e; cases e)]
    simp only [aSimple]; exact h2 G
  case makeSlice t l c =>
    rw [step _ (by intro f as ts e; cases e)] at h
    simp only [aSimple] at h
    have : ∃ ob, H' = H.add fid ob ∧ ∀ G, aMakeSlice P t (ρ l) (ρ c) fid G = some (v, G.add fid ob) := by
      unfold aMakeSlice at h ⊢
      split at h
      · split at h
        · split at h
          · split at h
            · simp only [Bool.cond_eq_ite] at h ⊢
              split at h
              · cases h
                exact ⟨_, rfl, fun G => by simp only [*, if_true]; rfl⟩
              · cases h
            · cases h
          · cases h
        · cases h
      · cases h
    obtain ⟨ob, h1, h2⟩ := this
    refine ⟨rfl, ob, h1, fun G => ?_⟩
    rw [step _ (by intro f as ts e; cases e)]
    simp only [aSimple]; exact h2 G
  case makeMap t r =>
    rw [step _ (by intro f as ts e; cases e)] at h
    cases r with
    | some r => simp only [aSimple] at h; cases h
    | none =>
      simp only [aSimple] at h
      cases h
      refine ⟨rfl, _, rfl, fun G => ?_⟩
      rw [step _ (by intro f as ts e; cases e)]
      rfl
  case insert => exact last
  case store => exact last
  case ready => exact last
  case waits => exact last
  case sliceToArrayPointer => exact last
  case makeChan => exact last
  case mapUpdate => exact last
  case mapEntry => exact last
  case entryStore => exact last
  case range => exact last
  case next => exact last
  case entry => exact last
  case typeAssert => exact last
  case go => exact last
  case defer => exact last
  case panic => exact last
  case send => exact last
  case recv => exact last
  case select => exact last
  all_goals
    rw [step _ (by intro f as ts e; cases e)] at h
    show H' = H ∧ ∀ G, aStep P call ρ _ fid G = some (v, G)
    refine ⟨?_, fun G => ?_⟩
    · simp only [aSimple, Bool.cond_eq_ite] at h
      (repeat' split at h) <;> first
        | (cases h; done)
        | exact (map_fst h).1
        | (cases h; rfl)
    · rw [step _ (by intro f as ts e; cases e)]
      simp only [aSimple, Bool.cond_eq_ite] at h ⊢
      (repeat' split at h) <;> first
        | (cases h; done)
        | exact (map_fst h).2 G
        | (cases h; simp_all; done)
        | (have := (map_fst h).2 G; simp_all; done)
end Go.Proofs.Ytmflapajjghpmaa
