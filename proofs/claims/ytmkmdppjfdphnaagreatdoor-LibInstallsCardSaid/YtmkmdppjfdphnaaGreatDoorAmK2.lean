/- The machine made ready for the kernel: its operations, each of which answers what the machine's does. -/
import Derived.Test.YtmkmdppjfdphnaaGreatDoorAmK
set_option linter.unusedSimpArgs false
set_option linter.unusedVariables false
namespace Go.Proofs.YtmkmdppjfdphnaaGreatDoor
open Go.RowKit

def KOk (P : Program) (o : Oper) (b : KF) : Prop := ∀ call k e fid H r, FR k e → (b call k fid H).opt = some r → aStep P call (aEval e) o fid H = some r
noncomputable def kGen (P : Program) (o : Oper) : KF := fun call e fid H => kof (aStep P call (fun x => (kOpd x).g e) o fid H)
theorem kGen_ok (P : Program) (o : Oper) : KOk P o (kGen P o) := fun call k8 e fid H r hR h => by
  unfold kGen at h
  rw [kof_opt] at h
  rwa [show aEval e = fun x => (kOpd x).g k8 from funext fun x => (hR.arg x).symm]
section
variable {P : Program} {o : Oper} {x y c : Operand}
noncomputable def kMove (x : KG E8 Value) : KF := fun _ e _ H => .ok (x.g e) H
theorem kMove_ok (ho : o.op = .move x ∨ o.op = .assign x) : KOk P o (kMove (kOpd x)) := fun call k8 e fid H r hR h => by
  unfold kMove at h; rw [hR.arg] at h
  rcases ho with ho | ho <;> (simp only [aStep, aSimple, ho]; exact h)
noncomputable def kPick (c x y : KG E8 Value) : KF := fun _ e _ H => kBool (c.g e) .fail fun b => .ok ((@Bool.rec (fun _ => KG E8 Value) y x b).g e) H
theorem kPick_ok (ho : o.op = .pick c x y) : KOk P o (kPick (kOpd c) (kOpd x) (kOpd y)) := fun call k8 e fid H r hR h => by
  unfold kPick at h; rw [hR.arg c] at h
  simp only [aStep, aSimple, ho]
  rcases kBool_or (aEval e c) with ⟨b, hb, hk⟩ | ⟨_, hk⟩
  · rw [hk] at h
    simp only [hb]
    cases b <;> (rw [hR.arg] at h; exact h)
  · rw [hk] at h; cases h
noncomputable def kLoad1 (x : KG E8 Value) : KF := fun _ e _ H => kPtr (x.g e) .fail fun i p => kRow H i .fail fun cells _ _ _ => kov (knth cells p) H
theorem kLoad1_ok {t : TypeId} {d : TypeDesc} (ho : o.op = .load t x) (hu : P.underlying t = some d) (ha : aggT d = false) : KOk P o (kLoad1 (kOpd x)) := fun call k8 e fid H r hR h => by
  unfold kLoad1 at h; rw [hR.arg] at h
  simp only [aStep, aSimple, ho]
  rcases kPtr_or (aEval e x) with ⟨i, p, hx, hk⟩ | hk
  · rw [hk] at h
    rcases kRow_or H i with ⟨c, t, s, w, hr, hk2⟩ | hk2
    · rw [hk2, kov_opt, knth_eq] at h
      simp only [hx, aLoad, hr, hu, ha, cond]; exact h
    · rw [hk2] at h; cases h
  · rw [hk] at h; cases h
noncomputable def kLoadN (x : KG E8 Value) (n : Nat) : KF := fun _ e _ H => kPtr (x.g e) .fail fun i p => kRow H i .fail fun cells _ _ _ => kov (kcut cells p n fun l => some (.agg ⟨l⟩)) H
theorem kLoadN_ok {t : TypeId} {d : TypeDesc} {inf : TypeInfo} (ho : o.op = .load t x) (hu : P.underlying t = some d) (ha : aggT d = true) (hi : P.info? t = some inf) : KOk P o (kLoadN (kOpd x) inf.size) := fun call k8 e fid H r hR h => by
  unfold kLoadN at h; rw [hR.arg] at h
  simp only [aStep, aSimple, ho]
  rcases kPtr_or (aEval e x) with ⟨i, p, hx, hk⟩ | hk
  · rw [hk] at h
    rcases kRow_or H i with ⟨c, t, s, w, hr, hk2⟩ | hk2
    · rw [hk2, kov_opt, kcut_eq] at h
      simp only [hx, aLoad, hr, hu, ha, hi, cond]
      rw [← h]
      cases cut c p inf.size <;> rfl
    · rw [hk2] at h; cases h
  · rw [hk] at h; cases h
noncomputable def kFieldAddr (x : KG E8 Value) (off : Nat) : KF := fun _ e _ H => kPtr (x.g e) .fail fun i p => kforce (Nat.add p off) fun q => .ok (.pointer (some ⟨i, q, none⟩)) H
theorem kFieldAddr_ok {t f : Nat} {fs : Array Field} {fd : Field} {inf : TypeInfo} (ho : o.op = .fieldAddr t x f) (hu : P.underlying t = some (.struct fs)) (hf : fs[f]? = some fd) (hi : P.info? fd.type = some inf) (hz : Nat.beq inf.size 0 = false) : KOk P o (kFieldAddr (kOpd x) fd.offset) := fun call k8 e fid H r hR h => by
  unfold kFieldAddr at h; rw [hR.arg] at h
  simp only [aStep, aSimple, ho]
  rcases kPtr_or (aEval e x) with ⟨i, p, hx, hk⟩ | hk
  · rw [hk, kforce_eq] at h
    simp only [hx, hu, hf, hi, hz, cond]; exact h
  · rw [hk] at h; cases h
noncomputable def kNil (x : KG E8 Value) (g : KF) : KF := fun call e fid H => @Option.rec Addr (fun _ => KV) (g call e fid H) (fun _ => .ok (x.g e) H) (vPtr (x.g e))
theorem vPtr_some {v : Value} {a : Addr} (h : vPtr v = some a) : v = .pointer (some a) := by
  cases v with
  | pointer b => cases h; rfl
  | _ => cases h
theorem kNil_ok {g : KF} (ho : o.op = .nilCheck x) (hg : KOk P o g) : KOk P o (kNil (kOpd x) g) := fun call k8 e fid H r hR h => by
  unfold kNil at h; rw [hR.arg] at h
  cases hv : vPtr (aEval e x) with
  | none => rw [hv] at h; exact hg _ _ _ _ _ _ hR h
  | some a =>
    rw [hv] at h
    simp only [aStep, aSimple, ho, vPtr_some hv]
    rw [vPtr_some hv] at h
    exact h
noncomputable def kField1 (x : KG E8 Value) (off : Nat) : KF := fun _ e _ H => kAgg (x.g e) .fail fun l => kov (knth l off) H
theorem kField1_ok {t f : Nat} {fs : Array Field} {fd : Field} {d : TypeDesc} {inf : TypeInfo} (ho : o.op = .field t x f) (hu : P.underlying t = some (.struct fs)) (hf : fs[f]? = some fd) (hd : P.underlying fd.type = some d) (hi : P.info? fd.type = some inf) (ha : aggT d = false) : KOk P o (kField1 (kOpd x) fd.offset) := fun call k8 e fid H r hR h => by
  unfold kField1 at h; rw [hR.arg] at h
  simp only [aStep, aSimple, ho]
  rcases kAgg_or (aEval e x) with ⟨l, hx, hk⟩ | ⟨_, hk⟩
  · rw [hk, kov_opt, knth_eq] at h
    simp only [hx, hu, hf, aPart, hd, hi, ha, cond]
    rw [← h, List.getElem?_toArray]
  · rw [hk] at h; cases h
noncomputable def kExtract (x : KG E8 Value) (n : Nat) : KF := fun _ e _ H => kTup (x.g e) .fail fun l => kov (knth l n) H
theorem kExtract_ok {n : Nat} (ho : o.op = .extract x n) : KOk P o (kExtract (kOpd x) n) := fun call k8 e fid H r hR h => by
  unfold kExtract at h; rw [hR.arg] at h
  simp only [aStep, aSimple, ho]
  rcases kTup_or (aEval e x) with ⟨l, hx, hk⟩ | ⟨_, hk⟩
  · rw [hk, kov_opt, knth_eq] at h
    simp only [hx]
    rw [← h, List.getElem?_toArray]
  · rw [hk] at h; cases h
noncomputable def kIndexAddr (x y : KG E8 Value) (s : Nat) : KF := fun _ e _ H => kSl (x.g e) .fail fun i p n _ => kNat (y.g e) .fail fun _ j => @Bool.rec (fun _ => KV) .fail (kforce (Nat.add p (Nat.mul j s)) fun q => .ok (.pointer (some ⟨i, q, none⟩)) H) (Nat.ble (Nat.succ j) n)
theorem kIndexAddr_ok {t el : TypeId} {inf : TypeInfo} (ho : o.op = .indexAddr t x y) (hu : P.underlying t = some (.slice el)) (hi : P.info? el = some inf) : KOk P o (kIndexAddr (kOpd x) (kOpd y) inf.size) := fun call k8 e fid H r hR h => by
  unfold kIndexAddr at h; rw [hR.arg, hR.arg] at h
  simp only [aStep, aSimple, ho]
  rcases kSl_or (aEval e x) with ⟨i, p, n, c, hx, hk⟩ | hk
  · rw [hk] at h
    rcases kNat_or (aEval e y) with ⟨t, j, hy, hk2⟩ | hk2
    · rw [hk2] at h
      simp only [hx, hy, hu, hi, Nat.blt]
      cases hb : Nat.ble (Nat.succ j) n with
      | false => rw [hb] at h; cases h
      | true => rw [hb] at h; change (kforce _ _ : KV).opt = _ at h; rw [kforce_eq] at h; exact h
    · rw [hk2] at h; cases h
  · rw [hk] at h; cases h
noncomputable def kIndexAddrA (x y : KG E8 Value) (n s : Nat) : KF := fun _ e _ H => kPtr (x.g e) .fail fun i p => kNat (y.g e) .fail fun _ j => @Bool.rec (fun _ => KV) .fail (kforce (Nat.add p (Nat.mul j s)) fun q => .ok (.pointer (some ⟨i, q, none⟩)) H) (Nat.ble (Nat.succ j) n)
theorem kIndexAddrA_ok {t el : TypeId} {n : Nat} {inf : TypeInfo} (ho : o.op = .indexAddr t x y) (hu : P.underlying t = some (.array n el)) (hi : P.info? el = some inf) : KOk P o (kIndexAddrA (kOpd x) (kOpd y) n inf.size) := fun call k8 e fid H r hR h => by
  unfold kIndexAddrA at h; rw [hR.arg, hR.arg] at h
  simp only [aStep, aSimple, ho]
  rcases kPtr_or (aEval e x) with ⟨i, p, hx, hk⟩ | hk
  · rw [hk] at h
    rcases kNat_or (aEval e y) with ⟨t, j, hy, hk2⟩ | hk2
    · rw [hk2] at h
      simp only [hx, hy, hu, hi, Nat.blt]
      cases hb : Nat.ble (Nat.succ j) n with
      | false => rw [hb] at h; cases h
      | true => rw [hb] at h; change (kforce _ _ : KV).opt = _ at h; rw [kforce_eq] at h; exact h
    · rw [hk2] at h; cases h
  · rw [hk] at h; cases h
/-- a string's letter -/
noncomputable def kIndexS (x y : KG E8 Value) (g : KF) : KF := fun call e fid H => kStr (x.g e) (g call e fid H) fun l => kNat (y.g e) .fail fun _ j => @Option.rec UInt8 (fun _ => KV) .fail (fun b => kforce b.toBitVec.toFin.1 fun q => .ok (.int .u8 (.ofNat q)) H) (knth l j)
theorem kIndexS_ok {t : TypeId} {g : KF} (ho : o.op = .index t x y) (hu : P.underlying t = some .string) (hg : KOk P o g) : KOk P o (kIndexS (kOpd x) (kOpd y) g) := fun call k8 e fid H r hR h => by
  unfold kIndexS at h; rw [hR.arg, hR.arg] at h
  rcases kStr_or (aEval e x) with ⟨l, hx, hk⟩ | hk
  · rw [hk] at h
    rcases kNat_or (aEval e y) with ⟨t', j, hy, hk2⟩ | hk2
    · rw [hk2] at h
      have h1 := @Js P call (aEval e) fid H (fun q => q = r) o.dst o.type t o.pos o.after o.guard x y (by rw [hx]; rfl)
      rw [hx, hy, ixS_at hu l t' (.ofNat j) (Int.natCast_nonneg j)] at h1
      have ho' : (⟨o.dst, .index t x y, o.type, o.pos, o.after, o.guard⟩ : Oper) = o := by cases o; simp only at ho; rw [ho]
      rw [ho'] at h1
      have h2 : Got ((l[(Int.ofNat j).toNat]?).map fun b => Value.int .u8 (b.toNat : Int)) fun v => (v, H) = r := by
        rw [knth_eq] at h
        show Got ((l[j]?).map fun b => Value.int .u8 (b.toNat : Int)) fun v => (v, H) = r
        cases hl : l[j]? with
        | none => rw [hl] at h; cases h
        | some b => rw [hl] at h; change (kforce _ _ : KV).opt = _ at h; rw [kforce_eq] at h; cases h; exact ⟨_, rfl, rfl⟩
      rw [← h1] at h2
      obtain ⟨a, h3, h4⟩ := h2
      rw [h3, h4]
    · rw [hk2] at h; cases h
  · rw [hk] at h; exact hg _ _ _ _ _ _ hR h
end
end Go.Proofs.YtmkmdppjfdphnaaGreatDoor
