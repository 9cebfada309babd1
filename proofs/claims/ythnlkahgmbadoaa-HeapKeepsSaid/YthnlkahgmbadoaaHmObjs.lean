/- Heap: what Objects, as a help, tells of a heap that lies in memory; the examples of the chapter as a help. -/
import Derived.Test.YthnlkahgmbadoaaHmGood0
import Derived.Test.YthnlkahgmbadoaaSrtAll
namespace Go.Proofs.Ythnlkahgmbadoaa
open Go.RowKit
set_option linter.unusedSimpArgs false
set_option linter.unusedVariables false
set_option maxRecDepth 100000

theorem awake14 (w : World) : Calls Try.prog 9 #[] w fun e w' => e = .returned (.bool true) ∧ Below w.heap.size w w' :=
  true_of_am (by kernel_rfl) 60 9 [] rfl (by kernel_rfl) w
noncomputable def O14 : Helps := orHelp (oneHelp 8 objsFn) (flatHelp 9 (.bool true))
theorem O14_sound : CallSound Try.prog [] (helpFn O14) := orHelp_sound objs_sound (flatHelp_sound rfl awake14)
theorem beqn {f g : Nat} (h : f ≠ g) : Nat.beq f g = false := by
  cases e : Nat.beq f g with
  | false => rfl
  | true => exact absurd (Nat.eq_of_beq_eq_true e) h
theorem clear14 : Clear O14 := fun f hf => by
  have h1 : f ≠ 9 := fun e => hf (by rw [e]; decide)
  have h2 : f ≠ 8 := fun e => hf (by rw [e]; decide)
  unfold O14 orHelp oneHelp flatHelp
  rw [beqn h1, beqn h2]; rfl
theorem awake14_ok {n : Nat} {o : Tr AObj} {nx : Nat} {lg : List Nat} : oCall Try.prog [] O14 (n + 1) 9 [] ⟨o, nx, lg⟩ = some (.bool true, ⟨o, nx, lg⟩) := rfl
theorem wf_of {x : Int} (h0 : 0 ≤ x) (h1 : x ≤ 1000000) : (Lit.int .i64 x).wf = true := by
  simp [Lit.wf, IntKind.min, IntKind.max, IntKind.bits, IntKind.signed]; omega
theorem ints_of : ∀ l : List Int, intsOf (l.map (Value.int .i64)) = some l
  | [] => rfl
  | x :: l => by simp only [List.map_cons, intsOf, ints_of l, Option.map_some]
theorem nodZ_of : ∀ l : List Int, l.Nodup → nodZ l = true
  | [], _ => rfl
  | x :: l, h => by
    obtain ⟨h1, h2⟩ := List.nodup_cons.1 h
    simp only [nodZ]
    have : (l.any fun y => decide (x = y)) = false := by
      cases hb : l.any fun y => decide (x = y) with
      | false => rfl
      | true =>
        obtain ⟨y, hy, e⟩ := List.any_eq_true.1 hb
        simp only [decide_eq_true_eq] at e
        subst e; exact absurd hy h1
    rw [this]; exact nodZ_of l h2
theorem key_i64 : KeyBy Try.prog 2 (Value.int .i64) where
  chk b x := by kernel_rfl
  flat x := rfl
  bits x := by simp [Instr.sameBits]
  desc := ⟨_, Try.underlying2, .inl fun x y => by simp only [Instr.sameNow]; by_cases e : x = y <;> simp [e]⟩
theorem hc14 : CallSound Try.prog [] (oCall Try.prog [] O14 999) := oCall_sound O14_sound mixed_ 999
section
variable {n : Nat} {o : Tr AObj} {nx : Nat} {lg : List Nat} {w : Nat → Nat} {B : HB} {hs : HS}
def kindO (hs : HS) (d : Int) : Int := match lookO hs.objs d with
  | some ob => ob.kind
  | none => 0
/-- the objects, by their numbers, rising -/
def objsO (hs : HS) : List (Int × Int) := (sortI (hs.objs.map (·.1))).map fun d => (kindO hs d, d)
theorem objsO_len (hs : HS) : (objsO hs).length = hs.objs.length := by
  unfold objsO
  rw [List.length_map, (sortI_perm _).length_eq, List.length_map]
theorem look_some {l : List (Int × Ob)} {d : Int} (h : d ∈ l.map (·.1)) : ∃ ob, lookO l d = some ob := by
  obtain ⟨q, hq, rfl⟩ := List.mem_map.1 h
  cases e : l.find? (fun p => decide (p.1 = q.1)) with
  | some p => exact ⟨p.2, by unfold lookO; rw [e]; rfl⟩
  | none => have := List.find?_eq_none.1 e q hq; simp at this
theorem kind_at (h : HeapIn o nx w B hs) {d : Int} (hd : d ∈ hs.objs.map (·.1)) : kindA ⟨o, nx, lg⟩ B.ma d = some (kindO hs d) := by
  obtain ⟨es, c, hma, hmap⟩ := h.all
  have hl := aLookup_by key_int Try.underlying60 (show zeroOf Try.prog 68 = some (.pointer none) from by kernel_rfl) (H := ⟨o, nx, lg⟩) hma hmap d false
  obtain ⟨ob, hob⟩ := look_some hd
  unfold kindA kindO
  rw [hl]
  rcases kv_obj B d hs.objs 0 with ⟨h1, _⟩ | ⟨ob', r, h1, h2, h3⟩
  · rw [hob] at h1; cases h1
  · rw [h3, h1]
    have hI := h.obs _ h2
    obtain ⟨tp, sp, ca, cc, z, hro, _⟩ := hI.ex
    simp only [cond]
    simp only at hro
    rw [show (⟨o, nx, lg⟩ : AHeap).get (B.bl d) = o.get (B.bl d) from rfl, hro]
theorem kinds_at (h : HeapIn o nx w B hs) : ∀ l : List Int, (∀ d ∈ l, d ∈ hs.objs.map (·.1)) → kindsA ⟨o, nx, lg⟩ B.ma l = some (l.map fun d => (kindO hs d, d))
  | [], _ => rfl
  | d :: l, hd => by
    simp only [kindsA, kind_at h (hd d (by simp)), kinds_at h l fun x hx => hd x (by simp [hx]), Option.map_some, List.map_cons]
theorem objs_ok (h : HeapIn o nx w B hs) (hG : HGood hs) (hsz : hs.pool.sizes.length ≤ 1000000) (hl : hs.objs.length ≤ 1000000) :
    oCall Try.prog [] O14 (n + 1) 8 [.pointer (some ⟨B.i, 0, none⟩)] ⟨o, nx, lg⟩ = some (resV ⟨o, nx, lg⟩ (objsO hs), resH ⟨o, nx, lg⟩ (objsO hs)) := by
  obtain ⟨z, hr⟩ := h.row
  obtain ⟨es, c, hma, hmap⟩ := h.all
  have hk : es.map (·.key) = (hs.objs.map (·.1)).map (Value.int .i64) := by
    have := congrArg (List.map Prod.fst) hmap
    simpa [List.map_map, Function.comp_def] using this
  have hkeys : keysA es = some (hs.objs.map (·.1)) := by
    unfold keysA
    rw [hk, ints_of]
    have hw : (hs.objs.map (·.1)).all (fun x => (Lit.int .i64 x).wf) = true := by
      rw [List.all_eq_true]
      intro x hx
      obtain ⟨q, hq, rfl⟩ := List.mem_map.1 hx
      have := hG.ids q hq
      unfold hasP at this
      simp only [Bool.and_eq_true, decide_eq_true_eq] at this
      exact wf_of (by omega) (by omega)
    simp only
    rw [hw, nodZ_of _ hG.keys, show Nat.ble (hs.objs.map (·.1)).length 1000000 = true from by rw [Nat.ble_eq, List.length_map]; exact hl]
    rfl
  show objsFn [.pointer (some ⟨B.i, 0, none⟩)] ⟨o, nx, lg⟩ = _
  unfold objsFn
  simp only [show ∀ x, (⟨o, nx, lg⟩ : AHeap).get x = o.get x from fun _ => rfl, hr, hma, heapRow, hkeys]
  rw [kinds_at h _ fun d hd => (sortI_perm _).subset hd]
  rfl
end
end Go.Proofs.Ythnlkahgmbadoaa
