/- The machine made ready for the kernel: texts and rows cut, rows added to. -/
import Derived.Test.YtmkmdppjfdphnaaGreatDoorAmKa
set_option linter.unusedSimpArgs false
set_option linter.unusedVariables false
namespace Go.Proofs.YtmkmdppjfdphnaaGreatDoor
open Go.RowKit
section
variable {P : Program} {o : Oper} {x y c : Operand} {t u : TypeId}
/-- a bound -/
noncomputable def kBd (b : Option (KG E8 Value)) (e : E8) (d : Nat) (k : Nat → KV) : KV := @Option.rec (KG E8 Value) (fun _ => KV) (k d) (fun x => kNat (x.g e) .fail fun _ n => k n) b
theorem kBd_ok {k8 : E8} {e : Tr Value} (hR : FR k8 e) (b : Option Operand) (d : Nat) (k : Nat → KV) {r : Value × AHeap} (h : (kBd (b.map kOpd) k8 d k).opt = some r) : ∃ m, boundOf (b.map (aEval e)) = some m ∧ (k (m.getD d)).opt = some r := by
  cases b with
  | none => exact ⟨none, rfl, h⟩
  | some x =>
    change (kNat ((kOpd x).g k8) .fail fun _ n => k n).opt = some r at h
    rw [hR.arg] at h
    rcases kNat_or (aEval e x) with ⟨t, n, hx, hk⟩ | hk
    · rw [hk] at h
      exact ⟨some n, by simp only [Option.map_some, hx, boundOf], h⟩
    · rw [hk] at h; cases h
noncomputable def ktk {α : Type} (n : Nat) : List α → List α := @Nat.rec (fun _ => List α → List α) (fun _ => []) (fun _ ih l => @List.rec α (fun _ => List α) [] (fun a t _ => a :: ih t) l) n
theorem ktk_eq {α : Type} : ∀ (n : Nat) (l : List α), ktk n l = l.take n
  | 0, _ => rfl
  | n + 1, [] => rfl
  | n + 1, a :: l => congrArg (a :: ·) (ktk_eq n l)
noncomputable def kSliceS (x : KG E8 Value) (lo hi : Option (KG E8 Value)) (g : KF) : KF := fun call e fid H => kStr (x.g e) (g call e fid H) fun l => kBd lo e Nat.zero fun i => kBd hi e (klen l) fun m => @Bool.rec (fun _ => KV) .fail (@Bool.rec (fun _ => KV) .fail (.ok (.string ⟨⟨ktk (Nat.sub m i) (kdrop i l)⟩⟩) H) (Nat.ble m (klen l))) (Nat.ble i m)
theorem kSliceS_ok {lo hi : Option Operand} {g : KF} (ho : o.op = .slice t x lo hi none) (hu : P.underlying t = some .string) (hg : KOk P o g) : KOk P o (kSliceS (kOpd x) (lo.map kOpd) (hi.map kOpd) g) := fun call k8 e fid H r hR h => by
  unfold kSliceS at h
  rw [hR.arg] at h
  rcases kStr_or (aEval e x) with ⟨l, hx, hk⟩ | hk
  · rw [hk] at h
    obtain ⟨i, hi1, h⟩ := kBd_ok hR lo _ _ h
    obtain ⟨m, hm1, h⟩ := kBd_ok hR hi _ _ h
    rw [klen_eq] at h
    cases hb1 : Nat.ble (i.getD Nat.zero) (m.getD l.length) with
    | false => rw [hb1] at h; cases h
    | true =>
      rw [hb1] at h
      change (@Bool.rec (fun _ => KV) .fail _ (Nat.ble (m.getD l.length) l.length)).opt = some r at h
      cases hb2 : Nat.ble (m.getD l.length) l.length with
      | false => rw [hb2] at h; cases h
      | true =>
        rw [hb2] at h
        have h1 := @Jt P call (aEval e) fid H (fun q => q = r) o.dst o.type t o.pos o.after o.guard x lo hi (by rw [hx]; rfl)
        have ho' : (⟨o.dst, .slice t x lo hi none, o.type, o.pos, o.after, o.guard⟩ : Oper) = o := by cases o; simp only at ho; rw [ho]
        rw [ho', hx, slS_at hu l (i := i.getD 0) (m := m.getD l.length) (by rw [hi1]; rfl) (by rw [hm1]; rfl) (Nat.le_of_ble_eq_true hb1) (Nat.le_of_ble_eq_true hb2)] at h1
        rw [kdrop_eq, ktk_eq] at h
        exact got_eq1 (by rw [h1]; exact ⟨_, rfl, by cases h; rfl⟩)
  · rw [hk] at h; exact hg _ _ _ _ _ _ hR h
/-- a row's slice, cut; without a third bound -/
noncomputable def kSliceR (x : KG E8 Value) (lo hi : Option (KG E8 Value)) (s : Nat) (g : KF) : KF := fun call e fid H => kSl (x.g e) (g call e fid H) fun i p n c => kBd lo e Nat.zero fun l => kBd hi e n fun h => @Bool.rec (fun _ => KV) .fail (@Bool.rec (fun _ => KV) .fail
    (@Nat.rec (fun _ => KV) (kRow H i .fail fun _ _ es w => @Bool.rec (fun _ => KV) .fail (@Bool.rec (fun _ => KV) (kforce (Nat.add p (Nat.mul l s)) fun q => kforce (Nat.sub h l) fun m => .ok (.slice (some ⟨i, q, none⟩) m Nat.zero) H) (.ok (.slice (some ⟨i, p, none⟩) Nat.zero Nat.zero) H) (Nat.beq l h)) (@Bool.rec (fun _ => Bool) true (Nat.beq es s) w))
      (fun c _ => kforce (@Bool.rec (fun _ => Nat) (Nat.add p (Nat.mul l s)) p (Nat.beq c l)) fun q => kforce (Nat.sub h l) fun m => .ok (.slice (some ⟨i, q, none⟩) m (Nat.succ (Nat.sub c l))) H) c) (Nat.ble h n)) (Nat.ble l h)
theorem kSliceR_ok {el : TypeId} {inf : TypeInfo} {lo hi : Option Operand} {g : KF} (ho : o.op = .slice t x lo hi none) (hu : P.underlying t = some (.slice el)) (hi0 : P.info? el = some inf) (hg : KOk P o g) : KOk P o (kSliceR (kOpd x) (lo.map kOpd) (hi.map kOpd) inf.size g) := fun call k8 e fid H r hR h => by
  unfold kSliceR at h
  rw [hR.arg] at h
  rcases kSl_or (aEval e x) with ⟨i, p, n, c, hx, hk⟩ | hk
  · rw [hk] at h
    obtain ⟨l, hl1, h⟩ := kBd_ok hR lo _ _ h
    obtain ⟨m, hm1, h⟩ := kBd_ok hR hi _ _ h
    have hb0 : boundOf (none : Option Value) = some none := rfl
    simp only [aStep, aSimple, ho, hx, aSlice, hu, hi0, hl1, hm1, hb0, Option.map_none]
    cases hb1 : Nat.ble (l.getD Nat.zero) (m.getD n) with
    | false => rw [hb1] at h; cases h
    | true =>
      rw [hb1] at h
      change (@Bool.rec (fun _ => KV) .fail _ (Nat.ble (m.getD n) n)).opt = some r at h
      cases hb2 : Nat.ble (m.getD n) n with
      | false => rw [hb2] at h; cases h
      | true =>
        rw [hb2] at h
        rw [show l.getD 0 = l.getD Nat.zero from rfl, Option.getD_none, hb2, show Nat.ble n n = true from Nat.ble_self_eq_true n]
        simp only [Option.isNone_none, Bool.true_or, Bool.and_self, cond]
        cases c with
        | zero =>
          change (kRow H i KV.fail _).opt = some r at h
          rcases kRow_or H i with ⟨cells, et, es, w, hr, hk2⟩ | hk2
          · rw [hk2] at h
            have hcap : capKnown inf.size i H = @Bool.rec (fun _ => Bool) true (Nat.beq es inf.size) w := by simp only [capKnown, hr]; cases w <;> rfl
            rw [← hcap] at h
            cases hc : capKnown inf.size i H with
            | false => rw [hc] at h; cases h
            | true =>
              rw [hc] at h
              change (@Bool.rec (fun _ => KV) _ _ (Nat.beq (l.getD Nat.zero) (m.getD n))).opt = some r at h
              cases hq : Nat.beq (l.getD Nat.zero) (m.getD n) with
              | true => rw [hq] at h; exact h
              | false =>
                rw [hq] at h
                change (kforce _ _ : KV).opt = some r at h
                rw [kforce_eq, kforce_eq] at h; exact h
          · rw [hk2] at h; cases h
        | succ c =>
          change (kforce _ _ : KV).opt = some r at h
          rw [kforce_eq, kforce_eq] at h
          cases hq : Nat.beq c (l.getD Nat.zero) with
          | true => rw [hq] at h; simp only [hq]; exact h
          | false => rw [hq] at h; simp only [hq]; exact h
  · rw [hk] at h; exact hg _ _ _ _ _ _ hR h
/-! ### added to -/
noncomputable def kallOne (l : List Value) : Bool := @List.rec Value (fun _ => Bool) true (fun v _ ih => @Bool.rec (fun _ => Bool) false ih (@Value.rec (fun _ => Bool) (fun _ => Bool) (fun _ => Bool) (fun _ => true) (fun _ _ => true) (fun _ _ => true) (fun _ _ _ => true) (fun _ => true) (fun _ => true) (fun _ _ _ => true) (fun _ => true) (fun _ => true) (fun _ _ _ _ _ => true) true (fun _ _ _ => true) true (fun _ _ => false) (fun _ _ => false) (fun _ _ => true) true (fun _ _ _ _ => true) v)) l
theorem kallOne_eq : ∀ l, kallOne l = l.all oneV
  | [] => rfl
  | v :: l => by
    rw [List.all_cons, ← kallOne_eq l]
    cases v <;> rfl
noncomputable def kRoom (k bytes : Nat) : Bool := @Bool.rec (fun _ => Bool) false (Nat.ble k (nat_lit 4611686018427387904)) (Nat.ble (Nat.mul k bytes) (nat_lit 140737488355328))
theorem kRoom_eq (k b : Nat) : kRoom k b = roomOk k b := by
  unfold kRoom roomOk
  show @Bool.rec (fun _ => Bool) false (Nat.ble k 4611686018427387904) (Nat.ble (k * b) 140737488355328) = _
  cases Nat.ble (k * b) 140737488355328 <;> rfl
noncomputable def kcutV (cells : List Value) (q n : Nat) (k : List Value → KV) : KV := @Option.rec KV (fun _ => KV) .fail (fun v => v) (kcut cells q n fun l => some (k l))
theorem kcutV_ok {cells : List Value} {q n : Nat} {k : List Value → KV} {r : Value × AHeap} (h : (kcutV cells q n k).opt = some r) : ∃ l, cut cells q n = some l ∧ (k l).opt = some r := by
  unfold kcutV at h
  rw [kcut_eq] at h
  cases hc : cut cells q n with
  | none => rw [hc] at h; cases h
  | some l => rw [hc] at h; exact ⟨l, rfl, h⟩
/-- to nil -/
noncomputable def kApp0 (n c m : Nat) (news : List Value) (el s bytes : Nat) (fid : Nat) (H : AHeap) (g : KV) : KV := @Bool.rec (fun _ => KV) g (@Bool.rec (fun _ => KV) .fail (kforce fid fun f => .ok (.slice (some ⟨f, Nat.zero, none⟩) m Nat.zero) (kadd H f (.row news el s true))) (kRoom m bytes)) (Nat.beq (Nat.add n c) (nat_lit 0))
/-- to a row whose room is not known -/
noncomputable def kApp1 (i p n c m : Nat) (news : List Value) (el s bytes : Nat) (fid : Nat) (H : AHeap) (g : KV) : KV := @Bool.rec (fun _ => KV) g (kRow H i .fail fun olds et es w => kcutV olds p (Nat.mul n s) fun ol => @Bool.rec (fun _ => KV) .fail
  (@Bool.rec (fun _ => KV) .fail (kforce fid fun f => kforce (Nat.add n m) fun n => .ok (.slice (some ⟨f, Nat.zero, none⟩) n Nat.zero) (kadd (kupd H i none) f (.row (kapp ol news) el s true))) (@Bool.rec (fun _ => Bool) false (@Bool.rec (fun _ => Bool) false (@Bool.rec (fun _ => Bool) false (kallOne news) (Nat.beq et el)) (Nat.beq es s)) w)) (kRoom (Nat.add n m) bytes)) (Nat.beq c (nat_lit 0))
noncomputable def kAppend (x y : KG E8 Value) (el s bytes : Nat) (g : KF) : KF := fun call e fid H => kSl (y.g e) (g call e fid H) fun j q m _ => kRow H j .fail fun cells _ _ _ => kcutV cells q (Nat.mul m s) fun news =>
  @Bool.rec (fun _ => KV) (@Option.rec KSl (fun _ => KV) (g call e fid H) (fun a => @Option.rec Addr (fun _ => KV) (kApp0 a.n a.c m news el s bytes fid H (g call e fid H)) (fun d => @Option.rec Nat (fun _ => KV) (kApp1 d.block d.off a.n a.c m news el s bytes fid H (g call e fid H)) (fun _ => g call e fid H) d.spot) a.a) (vSl (x.g e))) (g call e fid H) (Nat.beq m (nat_lit 0))
theorem kAppend_ok {el : TypeId} {inf : TypeInfo} {z : Value} {d : TypeDesc} {g : KF} (ho : o.op = .call { callee := .builtin .append, args := #[x, y], argTypes := #[t, u] }) (hez : elemZeroOk P t = true) (ht : P.underlying t = some (.slice el)) (hu : P.underlying u = some d) (hd : srcT d = true) (hi : P.info? el = some inf) (hz : inf.zero = some z) (hg : KOk P o g) : KOk P o (kAppend (kOpd x) (kOpd y) el inf.size inf.bytes g) := fun call k8 e fid H r hR h => by
  unfold kAppend at h
  rw [hR.arg, hR.arg] at h
  have hG := hg call k8 e fid H r hR
  rcases kSl_or (aEval e y) with ⟨j, q, m, c', hy, hk⟩ | hk
  · rw [hk] at h
    rcases kRow_or H j with ⟨cells, ct, cs, cw, hr, hk2⟩ | hk2
    · rw [hk2] at h
      obtain ⟨news, hn, h⟩ := kcutV_ok h
      have hadd : addCells inf.size (aEval e y) H = some (m, news) := by
        rw [hy]; simp only [addCells, hr]
        rw [show m * inf.size = Nat.mul m inf.size from rfl, hn]; rfl
      change (@Bool.rec (fun _ => KV) _ _ (Nat.beq m 0)).opt = some r at h
      cases hm : Nat.beq m 0 with
      | true => rw [hm] at h; exact hG h
      | false =>
        rw [hm] at h
        change (@Option.rec KSl (fun _ => KV) _ _ (vSl (aEval e x))).opt = some r at h
        rcases vSl_or (aEval e x) with ⟨a, n, c, hx, hv⟩ | hv
        · rw [hv] at h
          cases a with
          | none =>
            change (@Bool.rec (fun _ => KV) (g call k8 fid H) _ (Nat.beq (Nat.add n c) 0)).opt = some r at h
            cases hz0 : Nat.beq (Nat.add n c) 0 with
            | false => rw [hz0] at h; exact hG h
            | true =>
              rw [hz0] at h
              have e0 : n + c = 0 := Nat.eq_of_beq_eq_true hz0
              obtain ⟨rfl, rfl⟩ : n = 0 ∧ c = 0 := by omega
              change (@Bool.rec (fun _ => KV) .fail _ (kRoom m inf.bytes)).opt = some r at h
              rw [kRoom_eq] at h
              cases hro : roomOk m inf.bytes with
              | false => rw [hro] at h; cases h
              | true =>
                rw [hro] at h
                change (kforce _ _ : KV).opt = some r at h
                rw [kforce_eq, kadd_eq] at h
                simp only [aStep, aSimple, ho, hez, aAppend, ht, hu, hd, hi, hz, hadd, hx, hm, hro, cond]
                exact h
          | some a =>
            obtain ⟨i, p, sp⟩ := a
            cases sp with
            | some _ => exact hG h
            | none =>
              change (@Bool.rec (fun _ => KV) (g call k8 fid H) _ (Nat.beq c 0)).opt = some r at h
              cases hc0 : Nat.beq c 0 with
              | false => rw [hc0] at h; exact hG h
              | true =>
                rw [hc0] at h
                have e0 : c = 0 := Nat.eq_of_beq_eq_true hc0
                subst e0
                change (kRow H i KV.fail _).opt = some r at h
                rcases kRow_or H i with ⟨olds, et, es, w, hr2, hk3⟩ | hk3
                · rw [hk3] at h
                  obtain ⟨ol, hol, h⟩ := kcutV_ok h
                  rw [show Nat.mul n inf.size = n * inf.size from rfl] at hol
                  rw [kRoom_eq, show Nat.add n m = n + m from rfl] at h
                  cases hro : roomOk (n + m) inf.bytes with
                  | false => rw [hro] at h; cases h
                  | true =>
                    rw [hro] at h
                    rw [kallOne_eq] at h
                    have hb : (@Bool.rec (fun _ => Bool) false (@Bool.rec (fun _ => Bool) false (@Bool.rec (fun _ => Bool) false (news.all oneV) (Nat.beq et el)) (Nat.beq es inf.size)) w) = (w && (Nat.beq es inf.size && (Nat.beq et el && news.all oneV))) := by cases w <;> cases Nat.beq es inf.size <;> cases Nat.beq et el <;> rfl
                    rw [hb] at h
                    cases hall : (w && (Nat.beq es inf.size && (Nat.beq et el && news.all oneV))) with
                    | false => rw [hall] at h; cases h
                    | true =>
                      rw [hall] at h
                      change (kforce _ _ : KV).opt = some r at h
                      rw [kforce_eq, kforce_eq, kadd_eq, kupd_eq, kapp_eq] at h
                      simp only [aStep, aSimple, ho, hez, aAppend, ht, hu, hd, hi, hz, hadd, hx, hm, hr2, hol, hro, hall, cond]
                      exact h
                · rw [hk3] at h; cases h
        · rw [hv] at h; exact hG h
    · rw [hk2] at h; cases h
  · rw [hk] at h; exact hG h
noncomputable def readyAppend (P : Program) (o : Oper) (x y : Operand) (t u : TypeId) : KB := match kUnder P t, kUnder P u with
  | some (.slice el), some d => match kInfo P el with
    | some inf => match inf.zero with
      | some _ => cond (srcT d && elemZeroOk P t) ⟨kAppend (kOpd x) (kOpd y) el inf.size inf.bytes (kGen P o)⟩ ⟨kGen P o⟩
      | none => ⟨kGen P o⟩
    | none => ⟨kGen P o⟩
  | _, _ => ⟨kGen P o⟩
theorem readyAppend_ok (ho : o.op = .call { callee := .builtin .append, args := #[x, y], argTypes := #[t, u] }) : KOk P o (readyAppend P o x y t u).f := by
  unfold readyAppend
  rw [kUnder_eq, kUnder_eq]
  split
  · rename_i el d ht hu
    rw [kInfo_eq]
    split
    · rename_i inf hi
      split
      · rename_i z hz
        cases hb : srcT d && elemZeroOk P t with
        | false => exact kGen_ok P o
        | true =>
          rw [Bool.and_eq_true] at hb
          exact kAppend_ok ho hb.2 ht hu hb.1 hi hz (kGen_ok P o)
      · exact kGen_ok P o
    · exact kGen_ok P o
  · exact kGen_ok P o
noncomputable def kMakeMap : KF := fun _ _ fid H => kforce fid fun i => .ok (.map (some i)) (kadd H i (.map [] Nat.zero))
theorem kMakeMap_ok (ho : o.op = .makeMap t none) : KOk P o kMakeMap := fun call k8 e fid H r hR h => by
  unfold kMakeMap at h
  rw [kforce_eq, kadd_eq] at h
  simp only [aStep, aSimple, ho]; exact h
end
end Go.Proofs.YtmkmdppjfdphnaaGreatDoor
