/- Heap: a table in it is turned; the pool is turned. -/
import Derived.Test.YtdfadipfhcikdaaGreatDoorHmFre0
import Derived.Test.YtdfadipfhcikdaaGreatDoorHmSto0
import Derived.Test.YtdfadipfhcikdaaGreatDoorHmTab
import Derived.Test.YtdfadipfhcikdaaGreatDoorTabSet1
import Derived.Test.YtdfadipfhcikdaaGreatDoorAmGo
namespace Go.Proofs.YtdfadipfhcikdaaGreatDoor
open Go.RowKit
set_option linter.unusedSimpArgs false
set_option linter.unusedVariables false
set_option maxRecDepth 100000

section
variable {o : Tr AObj} {nx : Nat} {w : Nat → Nat} {B : HB} {hs : HS}
theorem HGood.pos {hs : HS} (hG : HGood hs) : ∀ q ∈ hs.objs, 1 ≤ q.1 := fun q hq => by
  obtain ⟨k, hk, _⟩ := hasP_in hG.pool.len (hG.ids q hq)
  omega
/-- behind a call of the pool's -/
theorem HeapIn.pooled (h : HeapIn o nx w B hs) {o1 : Tr AObj} {nx1 : Nat} {a' b' : Option Nat} {P1 : PS} (hn : nx ≤ nx1) (hP1 : PoolIn o1 nx1 B.p a' b' P1) (ha : a' = B.a ∨ ∃ k, a' = some k ∧ nx ≤ k) (hb : b' = B.b ∨ ∃ k, b' = some k ∧ nx ≤ k) (hfr : ∀ x, x < nx → ¬ PMine B.p B.a B.b x → o1.get x = o.get x) :
    HeapIn o1 nx1 (markA nx w a' b') { B with a := a', b := b' } { hs with pool := P1 } := by
  obtain ⟨k1, k2, k3, k4⟩ := markA_ok h hn hP1 ha hb
  obtain ⟨z, hr⟩ := h.row
  obtain ⟨esA, cA, hmA, hmapA⟩ := h.all
  obtain ⟨esT, cT, hmT, hmapT⟩ := h.texts
  obtain ⟨esN, cN, hmN, hmapN⟩ := h.noted
  have g : ∀ x, w x ≠ 0 → w x ≠ 2 → w x ≠ 3 → w x ≠ 4 → o1.get x = o.get x := fun x h0 h2 h3 h4 => hfr x (h.wlt x h0) fun e => by
    rcases e with rfl | e | e
    · exact h2 h.wp
    · exact h3 (h.wa x e)
    · exact h4 (h.wb x e)
  refine h.of (bl' := B.bl) k1 k2 k3 k4 ⟨z, ?_⟩ hP1 ⟨esA, cA, ?_, hmapA⟩ (fun q hq => (h.obs q hq).keep hn fun x hx hob => ?_) ⟨esT, cT, ?_, hmapT⟩ ⟨esN, cN, ?_, hmapN⟩
  · rw [g _ (by rw [h.wi]; decide) (by rw [h.wi]; decide) (by rw [h.wi]; decide) (by rw [h.wi]; decide)]; exact hr
  · rw [g _ (by rw [h.wma]; decide) (by rw [h.wma]; decide) (by rw [h.wma]; decide) (by rw [h.wma]; decide)]; exact hmA
  · have := hob.1
    exact ⟨g x (by omega) (by omega) (by omega) (by omega), k2 x (by omega)⟩
  · rw [g _ (by rw [h.wmt]; decide) (by rw [h.wmt]; decide) (by rw [h.wmt]; decide) (by rw [h.wmt]; decide)]; exact hmT
  · rw [g _ (by rw [h.wmn]; decide) (by rw [h.wmn]; decide) (by rw [h.wmn]; decide) (by rw [h.wmn]; decide)]; exact hmN
/-- the marks behind a table's Set -/
def markT (w : Nat → Nat) (d : Int) (ta : Option Nat) : Nat → Nat := fun x => if ta = some x then 12 + 5 * d.toNat else w x
theorem HeapIn.tabbed (h : HeapIn o nx w B hs) (hG : HGood hs) {d : Int} {ob : Ob} (hm : (d, ob) ∈ hs.objs) (hk5 : ob.kind = 5) {o1 : Tr AObj} {nx1 : Nat} {ti tm : Nat} {ta ta' : Option Nat} {l' : List (VV × VV)} {sp : Option Addr} {ca : Option Nat} {cc zz : Nat}
    (hr : o.get (B.bl d) = some (.row (obRow ob (some ⟨ti, 0, none⟩) sp ca cc) 57 zz true)) (hT : TabIn o nx ti tm ta ob.tab) (hwi : w ti = 10 + 5 * d.toNat) (hwm : w tm = 11 + 5 * d.toNat) (hwt : ∀ q, ta = some q → w q = 12 + 5 * d.toNat) (hn : nx ≤ nx1) (hT1 : TabIn o1 nx1 ti tm ta' l') (hfr : ∀ b, b < nx → ¬ Mine ti tm ta b → o1.get b = o.get b) (hta : ta' = ta ∨ ∃ j, ta' = some j ∧ nx ≤ j) :
    HeapIn o1 nx1 (markT w d ta') B { hs with objs := setOb hs.objs d { ob with tab := l' } } := by
  have hd := h.obs _ hm
  have hdo := hd.own
  simp only at hd hdo
  have hold : ∀ x, w x ≠ 0 → markT w d ta' x = w x := fun x hx => by
    unfold markT
    by_cases e : ta' = some x
    · rw [if_pos e]
      rcases hta with rfl | ⟨j, rfl, hj⟩
      · exact (hwt x e).symm
      · cases e; have := h.wlt _ hx; omega
    · rw [if_neg e]
  have hmine : ∀ x, Mine ti tm ta x → 10 + 5 * d.toNat ≤ w x ∧ w x ≤ 12 + 5 * d.toNat := fun x hx => by
    rcases hx with rfl | rfl | e
    · rw [hwi]; omega
    · rw [hwm]; omega
    · rw [hwt x e]; omega
  have g : ∀ x, w x ≠ 0 → (w x < 10 + 5 * d.toNat ∨ 12 + 5 * d.toNat < w x) → o1.get x = o.get x := fun x h0 hx => hfr x (h.wlt x h0) fun e => by have := hmine x e; omega
  obtain ⟨z, hrow⟩ := h.row
  obtain ⟨esA, cA, hmA, hmapA⟩ := h.all
  obtain ⟨esT, cT, hmT, hmapT⟩ := h.texts
  obtain ⟨esN, cN, hmN, hmapN⟩ := h.noted
  have lo : ∀ x k, w x = k + 1 → k < 9 → o1.get x = o.get x := fun x k e hk => g x (by omega) (by omega)
  refine h.of (bl' := B.bl) (fun x hx => ?_) hold (fun q e => by rw [hold q (by rw [h.wa q e]; decide)]; exact h.wa q e) (fun q e => by rw [hold q (by rw [h.wb q e]; decide)]; exact h.wb q e) ⟨z, ?_⟩ (h.pool.keep hn ?_) ⟨esA, cA, ?_, ?_⟩ (fun q hq => ?_) ⟨esT, cT, ?_, hmapT⟩ ⟨esN, cN, ?_, hmapN⟩
  · unfold markT at hx
    by_cases e : ta' = some x
    · exact hT1.mine_lt (.inr (.inr e))
    · rw [if_neg e] at hx; have := h.wlt x hx; omega
  · rw [lo _ 0 h.wi (by decide)]; exact hrow
  · rintro x (rfl | e3 | e3)
    · exact lo _ 1 h.wp (by decide)
    · exact lo _ 2 (h.wa x e3) (by decide)
    · exact lo _ 3 (h.wb x e3) (by decide)
  · rw [lo _ 4 h.wma (by decide)]; exact hmA
  · show MapIs _ esA (objKV B (setOb _ _ _))
    rw [setOb_kv]; exact hmapA
  · simp only at hq
    unfold setOb at hq
    obtain ⟨q0, hq0, e⟩ := List.mem_map.1 hq
    by_cases e1 : q0.1 = d
    · rw [if_pos e1] at e
      subst e
      simp only [e1]
      obtain ⟨tp', sp', ca', cc', z', h1, h2, hcc, h4, h5⟩ := hd.ex
      rw [h1] at hr
      simp only [Option.some.injEq, AObj.row.injEq, List.cons.injEq, Value.pointer.injEq, Value.slice.injEq, true_and, and_true] at hr
      obtain ⟨⟨rfl, ⟨e1, rfl⟩, rfl⟩, rfl⟩ := hr
      have e1 : ca' = ca := by
        cases ca' <;> cases ca <;> simp [slA] at e1
        · rfl
        · rw [e1]
      subst e1
      refine ⟨Nat.lt_of_lt_of_le hd.lt hn, by rw [hold _ (by rw [hdo]; omega)]; exact hdo, _, _, _, _, _, (g _ (by rw [hdo]; omega) (by rw [hdo]; omega)).trans h1, ?_, hcc, fun q e => by rw [hold q (by rw [h4 q e]; omega)]; exact h4 q e, fun _ => ⟨ti, tm, ta', rfl, hT1, by rw [hold _ (by rw [hwi]; omega)]; exact hwi, by rw [hold _ (by rw [hwm]; omega)]; exact hwm, fun q e => by unfold markT; rw [if_pos e]⟩⟩
      exact h2.keep hn fun q e => g q (by rw [h4 q e]; omega) (by rw [h4 q e]; omega)
    · rw [if_neg e1] at e
      subst e
      refine (h.obs _ hq0).keep hn fun x hx hob => ?_
      have p1 := hG.pos _ hq0
      have p2 := hG.pos _ hm
      simp only at p2
      have := hob.1
      have := hob.2
      have : q0.1.toNat ≠ d.toNat := by omega
      exact ⟨g x (by omega) (by omega), hold x (by omega)⟩
  · rw [lo _ 5 h.wmt (by decide)]; exact hmT
  · rw [lo _ 6 h.wmn (by decide)]; exact hmN
end
end Go.Proofs.YtdfadipfhcikdaaGreatDoor

namespace Go.Proofs.YtdfadipfhcikdaaGreatDoor
open Go.RowKit
set_option linter.unusedSimpArgs false
set_option linter.unusedVariables false
set_option maxRecDepth 100000

def liveN (l : List (VV × VV)) : Nat := (l.filter fun p => p.2.1 ≠ 0).length
def setH (hs : HS) (d : Int) (ob : Ob) (k v : VV) : HS := { hs with objs := setOb hs.objs d { ob with tab := setL ob.tab k v }, pool := (resizeP hs.pool d (2 + 2 * Int.ofNat (liveN (setL ob.tab k v)))).1, noted := noteL hs d }
def setO (hs : HS) (t k v : VV) : HS × Int := match ofO hs t 5 with
  | none => (hs, 151)
  | some ob => if k.1 = 0 ∨ keepO hs k = false ∨ keepO hs v = false then (hs, 150) else if (getL ob.tab k).1 = 0 ∧ v.1 ≠ 0 ∧ hs.max < hs.pool.used + 2 then (hs, 152) else (setH hs t.2 ob k v, 0)
theorem setL_len (l : List (VV × VV)) (k v : VV) : (setL l k v).length ≤ l.length + 1 := by
  unfold setL
  split
  · simp
  · split
    · omega
    · rw [List.length_append]
      have : (liveL l).length ≤ l.length := List.length_filter_le _ _
      simp only [List.length_cons, List.length_nil]; omega
theorem may_of {hs : HS} {k v : VV} (hk0 : 0 ≤ k.1) (hk1 : k.1 ≠ 0) (hk : keepO hs k = true) (hv : keepO hs v = true) : MaySet k v := by
  have key : ∀ x, keepO hs x = true → ¬ 8 < x.1 ∧ plainB x = true := fun x hx => by
    unfold keepO at hx
    split at hx
    · cases hx
    · rename_i hn
      refine ⟨fun h => hn (.inl h), ?_⟩
      unfold plainB
      by_cases h2 : 2 < x.1
      · rw [decide_eq_true h2]; rfl
      · rw [decide_eq_true (p := x.2 = 0) (by
          by_cases e : x.2 = 0
          · exact e
          · exact absurd (.inr ⟨by omega, e⟩) hn), Bool.or_true]
  exact ⟨by omega, (key k hk).1, (key v hv).1, (key k hk).2, (key v hv).2⟩
/-- an operation of a drawn region that may turn things or leave all as it was -/
theorem d_or {P : Program} {call : CallFn} {all os : List Oper} {bf : List Nat} {base k : Nat} {env : Tr Value} {ob : Tr AObj} {nx : Nat} {lg : List Nat} {S : List (Nat × Nat)} {cs : List (Nat × Class)} {Q : Tr Value × AHeap → Prop} {d : Option Tmp} {op : Op} {ty : TypeId} {ps : String} {af : Array Edge}
    (R : Value × AHeap → Prop) (n1 n2 : Nat) (h : Got (aStep P call (aEval env) ⟨d, op, ty, ps, af, none⟩ (base + k) ⟨ob, nx, []⟩) R) (hk : ∀ r, R r → kindOf (zY (aEval env) (base + k) ⟨ob, nx, lg⟩ r.2 op) = n1 ∨ kindOf (zY (aEval env) (base + k) ⟨ob, nx, lg⟩ r.2 op) = n2) (hb1 : calmK bf k S n1 = true) (hb2 : calmK bf k S n2 = true)
    (h2 : ∀ v o' nx' l, R (v, ⟨o', nx', l⟩) → ∀ cl n, (n = n1 ∨ n = n2) → GotD P call all bf base os (k + 1) (putE env d v) ⟨o', nx', relogL lg l⟩ ((k, n) :: S) ((k, cl) :: cs) Q) : GotD P call all bf base (⟨d, op, ty, ps, af, none⟩ :: os) k env ⟨ob, nx, lg⟩ S cs Q := by
  intro hS
  rw [zH]
  refine h.mono fun a e => ?_
  obtain ⟨v, o', nx', l⟩ := a
  have hb : calmK bf k S (kindOf (zY (aEval env) (base + k) ⟨ob, nx, lg⟩ (⟨o', nx', l⟩ : AHeap) op)) = true := by
    rcases hk _ e with h | h
    · rw [h]; exact hb1
    · rw [h]; exact hb2
  refine ⟨calm_k hS rfl hb, h2 v o' nx' l e _ _ (hk _ e) ?_⟩
  show (k, _) :: kindsOf cs = _
  rw [hS]
section
variable {O : Helps} {n : Nat} {o : Tr AObj} {nx : Nat} {lg : List Nat} {w : Nat → Nat} {B : HB} {hs : HS}
theorem more3 (h : HeapIn o nx w B hs) (X Y Z : Option AObj) (q : Nat) : HeapIn (((o.put nx X).put (nx + 1) Y).put (nx + 2) Z) (nx + (q + 3)) w B hs := h.more (by omega) fun x hx => by (repeat (first | rw [qE] | rw [qF _ _ _ _ (by omega)]))
def hsetTail (f : Func) : Code := sqR (sqR (sqR (sqR (sqR (bodyOf f)))))
set_option maxHeartbeats 32000000 in
/-- behind the table's Set -/
theorem hset_tail (hO : Clear O) (h : HeapIn o nx w B hs) (hG : HGood hs) {t k v : VV} {ob : Ob} {o1 : Tr AObj} {nx1 : Nat} {lg1 : List Nat} {w1 : Nat → Nat} {ti tm : Nat} {ta : Option Nat} {sp : Option Addr} {ca : Option Nat} {cc zz : Nat} {e : Tr Value}
    (hA : HeapIn o1 nx1 w1 B { hs with objs := setOb hs.objs t.2 { ob with tab := setL ob.tab k v } }) (hT : TabIn o1 nx1 ti tm ta (setL ob.tab k v)) (hro : o1.get (B.bl t.2) = some (.row (obRow ob (some ⟨ti, 0, none⟩) sp ca cc) 57 zz true)) (hbx : o1.get nx = some (.row [.int .u8 t.1, .int .i64 t.2] 29 0 true)) (hn1 : nx < nx1) (hwn : w1 nx ≠ 0 → False)
    (hbl : B.bl t.2 < nx1) (hfr : ∀ x, x < nx → w x = 0 → o1.get x = o.get x ∧ w1 x = 0) (hl : ob.tab.length < 60000) (hln : ob.tab.length + 1 < n) (hn : hs.pool.sizes.length < n) (hz : (resizeP hs.pool t.2 (2 + 2 * Int.ofNat (liveN (setL ob.tab k v)))).2 = 0)
    (g0 : e.get 0 = some (.pointer (some ⟨B.i, 0, none⟩))) (g5 : e.get 5 = some (.pointer (some ⟨nx, 0, none⟩))) (g9 : e.get 9 = some (.pointer (some ⟨B.bl t.2, 0, none⟩))) (g10 : e.get 10 = some (.int .i64 0)) :
    Got (rCode Tryz.prog (oCall Tryz.prog [] O (n + 4)) (n + 4) (hsetTail Tryz.f6) e ⟨o1, nx1, lg1⟩) (fnEnd Tryz.prog [.tmp 8] ⟨o, nx, lg⟩ (HTo o nx lg w B hs (setH hs t.2 ob k v) (.int .i64 0))) := by
  obtain ⟨z, hr⟩ := hA.row
  have hi := hA.lt
  have hsl := setL_len ob.tab k v
  have hli : liveN (setL ob.tab k v) ≤ 60001 := by
    have : liveN (setL ob.tab k v) ≤ (setL ob.tab k v).length := List.length_filter_le _ _
    omega
  have hcnt := fun (q : Nat) (lg : List Nat) => count_ok (n := n + 2) (lg := lg) (o := o1) (nx := nx1 + q) hO (hT.more (nx' := nx1 + q) (by omega) fun _ _ => rfl).at (by omega) (by omega)
  rw [show ((setL ob.tab k v).filter fun p => p.2.1 ≠ 0).length = liveN (setL ob.tab k v) from rfl] at hcnt
  have w0 : IntKind.i64.wrap (2 * Int.ofNat (liveN (setL ob.tab k v))) = 2 * Int.ofNat (liveN (setL ob.tab k v)) := wrap_small _ (by simp only [Int.ofNat_eq_natCast]; omega) (by simp only [Int.ofNat_eq_natCast]; omega)
  have w2 : IntKind.i64.wrap (2 + 2 * Int.ofNat (liveN (setL ob.tab k v))) = 2 + 2 * Int.ofNat (liveN (setL ob.tab k v)) := wrap_small _ (by simp only [Int.ofNat_eq_natCast]; omega) (by simp only [Int.ofNat_eq_natCast]; omega)
  refine n_seq ?_
  repeat (first | with_reducible (first | refine n_on ?_ | refine n_seq ?_ | refine s_else ?_ | refine n_t ?_ | refine n_gt ?_ | refine d_t ?_ | refine n_nil ?_ | refine d_nil ?_ | refine n_block ?_ | refine n_skip ?_ | refine n_bon ?_ | refine n_bback ?_ | refine n_back ?_ | refine n_out ?_ | refine n_bout rfl ?_ | refine n_bfar rfl ?_ | refine n_ret ?_ | refine n_exit ?_ | refine n_label ?_ | refine n_scope ?_ | refine n_son ?_ | refine n_sback ?_) | (with_reducible (first | apply n_region | apply d_region); (simp only [JV, JU, JW, Nat.reduceAdd, Nat.zero_add]; exact rfl)) | (with_reducible (first | apply s_op | apply n_guard | apply n_cond | apply d_guard | apply d_op | apply n_fin | apply n_finb); (simp (maxDischargeDepth := 6) only [sy3.1, zY, qG, qP, qQ, qR, qS, qT, rowAt, ↓jg, ↓ji, Nat.reduceAdd, Nat.reduceEqDiff, ne_eq, jG, Nat.reduceLT, if_true, ite_true, Int.reduceLE, Int.reduceLT, Int.reduceEq, Int.reduceNeg, Int.reduceAdd, Nat.reduceSub, if_false, ite_false, fs_6.1, g0, g5, g9, g10, heapRow, obRow, hr, hi, hro, hbl, hbx, hn1, hcnt, w0, w2, kind_pure, kind_load, kind_fresh, kind_other, jg, ji, undef]; first | exact rfl | exact ⟨rfl, rfl, rfl, rfl⟩); try (with_reducible refine calmK_in ?_; decide +kernel)))
  refine d_do (ResizeTo o1 (nx1 + 16) [] B.p B.a B.b hs.pool (resizeP hs.pool t.2 (2 + 2 * Int.ofNat (liveN (setL ob.tab k v))))) 4 (by
    simp (maxDischargeDepth := 6) only [sy3.1, zY, qG, qP, qQ, qR, qS, qT, rowAt, ↓jg, ↓ji, Nat.reduceAdd, Nat.reduceEqDiff, ne_eq, jG, Nat.reduceLT, if_true, ite_true, Int.reduceLE, Int.reduceLT, Int.reduceEq, Int.reduceNeg, Int.reduceAdd, Nat.reduceSub, if_false, ite_false, fs_6.1]
    exact presize_log (n := n + 1) hO (hA.pool.more (nx' := nx1 + 16) (by omega) fun _ _ => rfl) hG.pool t.2 _ (show hs.pool.sizes.length < n + 1 from Nat.lt_succ_of_lt hn)) (fun r hr => ?_) (by decide +kernel) ?_
  · obtain ⟨⟨o', nx', lg', a', b', rfl, _⟩, hin⟩ := hr
    have hin : B.p ∈ lg' := hin hz
    show cond lg'.isEmpty (cond (Nat.beq (nx1 + 16) nx' && lg'.isEmpty) 2 3) 4 = _
    cases lg' with
    | nil => cases hin
    | cons y ys => rfl
  rintro v2 o2 nx2 lg2 ⟨⟨_, _, _, a', b', heq, hn2, hP2, hfr2, ha2, hb2, hmo2, _⟩, hin⟩ cl2
  cases heq
  have hin : B.p ∈ lg2 := hin hz
  have hB := (hA.more (nx' := nx1 + 16) (by omega) fun _ _ => rfl).pooled hn2 hP2 ha2 hb2 hfr2
  have hw1 : w1 nx = 0 := by
    by_cases e : w nx = 0
    · by_cases e2 : w1 nx = 0
      · exact e2
      · exfalso; exact hwn e2
    · have := h.wlt _ e; omega
  have hpn : ∀ x, w1 x = 0 → ¬ PMine B.p B.a B.b x := fun x hx e => by
    rcases e with rfl | e | e
    · rw [hA.wp] at hx; cases hx
    · rw [hA.wa x e] at hx; cases hx
    · rw [hA.wb x e] at hx; cases hx
  have hbx2 := (hfr2 nx (by omega) (hpn nx hw1)).trans hbx
  have hn2' : nx < nx2 := by omega
  repeat (first | with_reducible (first | refine n_on ?_ | refine n_seq ?_ | refine s_else ?_ | refine n_t ?_ | refine n_gt ?_ | refine d_t ?_ | refine n_nil ?_ | refine d_nil ?_ | refine n_block ?_ | refine n_skip ?_ | refine n_bon ?_ | refine n_bback ?_ | refine n_back ?_ | refine n_out ?_ | refine n_bout rfl ?_ | refine n_bfar rfl ?_ | refine n_ret ?_ | refine n_exit ?_ | refine n_label ?_ | refine n_scope ?_ | refine n_son ?_ | refine n_sback ?_) | (with_reducible (first | apply n_region | apply d_region); (simp only [JV, JU, JW, Nat.reduceAdd, Nat.zero_add]; exact rfl)) | (with_reducible (first | apply s_op | apply n_guard | apply n_cond | apply d_guard | apply d_op | apply n_fin | apply n_finb); (simp (maxDischargeDepth := 6) only [sy3.1, zY, qG, qP, qQ, qR, qS, qT, rowAt, ↓jg, ↓ji, Nat.reduceAdd, Nat.reduceEqDiff, ne_eq, jG, Nat.reduceLT, if_true, ite_true, Int.reduceLE, Int.reduceLT, Int.reduceEq, Int.reduceNeg, Int.reduceAdd, Nat.reduceSub, if_false, ite_false, fs_6.1, g0, g5, g9, g10, hbx2, hn2', kind_pure, kind_load, kind_fresh, kind_other, jg, ji, undef]; first | exact rfl | exact ⟨rfl, rfl, rfl, rfl⟩); try (with_reducible refine calmK_in ?_; decide +kernel)))
  refine s_do _ (by
    simp (maxDischargeDepth := 6) only [sy3.1, zY, qG, qP, qQ, qR, qS, qT, rowAt, ↓jg, ↓ji, Nat.reduceAdd, Nat.reduceEqDiff, ne_eq, jG, Nat.reduceLT, if_true, ite_true, Int.reduceLE, Int.reduceLT, Int.reduceEq, Int.reduceNeg, Int.reduceAdd, Nat.reduceSub, if_false, ite_false, fs_6.1, g0, hbx2]
    exact note_ok (n := n + 3) hO (hB.more (by omega) fun _ _ => rfl) t.2) ?_
  rintro v3 H3 ⟨o3, nx3, lg3, heq, hn3, hC, hfr3, hmo3⟩
  cases heq
  repeat (first | with_reducible (first | refine n_on ?_ | refine n_seq ?_ | refine s_else ?_ | refine n_t ?_ | refine n_gt ?_ | refine d_t ?_ | refine n_nil ?_ | refine d_nil ?_ | refine n_block ?_ | refine n_skip ?_ | refine n_bon ?_ | refine n_bback ?_ | refine n_back ?_ | refine n_out ?_ | refine n_bout rfl ?_ | refine n_bfar rfl ?_ | refine n_ret ?_ | refine n_exit ?_ | refine n_label ?_ | refine n_scope ?_ | refine n_son ?_ | refine n_sback ?_) | (with_reducible (first | apply n_region | apply d_region); (simp only [JV, JU, JW, Nat.reduceAdd, Nat.zero_add]; exact rfl)) | (with_reducible (first | apply s_op | apply n_guard | apply n_cond | apply d_guard | apply d_op | apply n_fin | apply n_finb); (simp (maxDischargeDepth := 6) only [sy3.1, zY, qG, qP, qQ, qR, qS, qT, rowAt, ↓jg, ↓ji, Nat.reduceAdd, Nat.reduceEqDiff, ne_eq, jG, Nat.reduceLT, if_true, ite_true, Int.reduceLE, Int.reduceLT, Int.reduceEq, Int.reduceNeg, Int.reduceAdd, Nat.reduceSub, if_false, ite_false, fs_6.1, g0, g5, g9, g10, kind_pure, kind_load, kind_fresh, kind_other, jg, ji, undef]; first | exact rfl | exact ⟨rfl, rfl, rfl, rfl⟩); try (with_reducible refine calmK_in ?_; decide +kernel)))
  refine hto_end h (w' := markA (nx1 + 16) w1 a' b') (B' := { B with a := a', b := b' }) (by rfl) (hC.more (by omega) fun _ _ => rfl) (by omega) rfl (fun x hx hw0 => ?_) (.inl ⟨B.p, ?_, by rw [h.wp]; decide⟩)
  · obtain ⟨f1, f2⟩ := hfr x hx hw0
    have e1 : x ≠ B.mn := fun e => by rw [e, hA.wmn] at f2; cases f2
    refine ⟨?_, ?_⟩
    · rw [hfr3 x (by omega) e1, hfr2 x (by omega) (hpn x f2)]; exact f1
    · rw [markA_old (by omega)]; exact f2
  · exact hmo3 _ (by simp only [in_relogL, hin, or_true])
set_option maxHeartbeats 32000000 in
theorem hset_ok (hO : Clear O) (h : HeapIn o nx w B hs) (hG : HGood hs) (t k v : VV) (hk0 : 0 ≤ k.1) (hn : hs.pool.sizes.length < n) (htl : ∀ ob, ofO hs t 5 = some ob → ob.tab.length < 60000 ∧ ob.tab.length + 1 < n ∧ (¬ ((getL ob.tab k).1 = 0 ∧ v.1 ≠ 0 ∧ hs.max < hs.pool.used + 2) → (resizeP hs.pool t.2 (2 + 2 * Int.ofNat (liveN (setL ob.tab k v)))).2 = 0)) :
    Got (oCall Tryz.prog [] O (n + 5) 6 [.pointer (some ⟨B.i, 0, none⟩), .agg #[.int .u8 t.1, .int .i64 t.2], .agg #[.int .u8 k.1, .int .i64 k.2], .agg #[.int .u8 v.1, .int .i64 v.2]] ⟨o, nx, lg⟩) (HTo o nx lg w B hs (setO hs t k v).1 (.int .i64 (setO hs t k v).2)) := by
  obtain ⟨z, hr⟩ := h.row
  have hi := h.lt
  have hright := hright_ok (n := n + 3) (i := B.i) (m := B.ma) (p := B.p) (c0 := .int .i64 hs.max) (c3 := .map (some B.mt)) (c4 := .int .i64 hs.made) (c5 := .bool hs.watch) (c6 := .map (some B.mn)) (e := 50) (z := z) (own := true) hO
  have hof := fun (X Y Z : AObj) (q : Nat) (lg : List Nat) => of_ok (n := n + 1) (lg := lg) hO (more3 h (some X) (some Y) (some Z) q) t 5
  have hkk := fun (X Y Z : AObj) (q : Nat) (lg : List Nat) => keep_ok (n := n + 1) (lg := lg) hO (more3 h (some X) (some Y) (some Z) q) k
  have hkv := fun (X Y Z : AObj) (q : Nat) (lg : List Nat) => keep_ok (n := n + 1) (lg := lg) hO (more3 h (some X) (some Y) (some Z) q) v
  have hU := fun (X Y Z : AObj) (q : Nat) (lg : List Nat) => pused_ok (n := n + 2) (lg := lg) (o := (((o.put nx (some X)).put (nx + 1) (some Y)).put (nx + 2) (some Z))) (nx := nx + (q + 3)) hO (h.pool.more (by omega) fun x hx => by (repeat (first | rw [qE] | rw [qF _ _ _ _ (by omega)])))
  unfold setO at *
  rw [y_fn (rs := [.tmp 8]) (hO _ (by decide)) Tryz.func6 rfl (by kernel_rfl) rfl rfl]
  cases ho : ofO hs t 5 with
  | none =>
    have hv : (if t.1 = 5 then foundV B hs t else Value.pointer none) = .pointer none := by
      unfold ofO at ho
      unfold foundV
      split at ho
      · rw [if_pos (by assumption), ho]
      · rw [if_neg (by assumption)]
    rw [hv] at hof
    repeat (first | with_reducible (first | refine n_on ?_ | refine n_seq ?_ | refine s_else ?_ | refine n_t ?_ | refine n_gt ?_ | refine d_t ?_ | refine n_nil ?_ | refine d_nil ?_ | refine n_block ?_ | refine n_skip ?_ | refine n_bon ?_ | refine n_bback ?_ | refine n_back ?_ | refine n_out ?_ | refine n_bout rfl ?_ | refine n_bfar rfl ?_ | refine n_ret ?_ | refine n_exit ?_ | refine n_label ?_ | refine n_scope ?_ | refine n_son ?_ | refine n_sback ?_) | (with_reducible (first | apply n_region | apply d_region); (simp only [JV, JU, JW, Nat.reduceAdd, Nat.zero_add]; exact rfl)) | (with_reducible (first | apply s_op | apply n_guard | apply n_cond | apply d_guard | apply d_op | apply n_fin | apply n_finb); (simp (maxDischargeDepth := 6) only [sy3.1, zY, qG, qP, qQ, qR, qS, qT, rowAt, ↓jg, ↓ji, Nat.reduceAdd, Nat.reduceEqDiff, ne_eq, jG, Nat.reduceLT, if_true, ite_true, Int.reduceLE, Int.reduceLT, Int.reduceEq, Int.reduceNeg, Int.reduceAdd, Nat.reduceSub, if_false, ite_false, fs_6.1, heapRow, hr, hi, hright, hof, ptr0_eql, kind_pure, kind_load, kind_fresh, kind_other, jg, ji, undef]; first | exact rfl | exact ⟨rfl, rfl, rfl, rfl⟩); try (with_reducible refine calmK_in ?_; decide +kernel)))
    exact quiet_end (by simp only [all_relogL, js, ju, List.all_nil, jt, Bool.and_self]) (by rfl) (.same h _)
  | some ob =>
    obtain ⟨ht1, hlk, hkd⟩ := ofO_look ho
    have hf : findO hs t = some ob := by unfold ofO at ho; rw [if_pos ht1] at ho; exact ho
    rw [if_pos ht1] at hof
    unfold foundV at hof
    rw [hf] at hof
    obtain ⟨hm, _⟩ := found_in hf
    have hob := h.obs _ hm
    obtain ⟨tp, sp, ca, cc, zz, hro, hv1, hcc, hvc, htab⟩ := hob.ex
    obtain ⟨ti, tm, ta, rfl, hT, hwi, hwm, hwt⟩ := htab (hkd.trans ht1)
    have hbl := hob.lt
    simp only at hro hbl
    simp only
    by_cases h1 : k.1 = 0
    · rw [if_pos (.inl h1)]
      repeat (first | with_reducible (first | refine n_on ?_ | refine n_seq ?_ | refine s_else ?_ | refine n_t ?_ | refine n_gt ?_ | refine d_t ?_ | refine n_nil ?_ | refine d_nil ?_ | refine n_block ?_ | refine n_skip ?_ | refine n_bon ?_ | refine n_bback ?_ | refine n_back ?_ | refine n_out ?_ | refine n_bout rfl ?_ | refine n_bfar rfl ?_ | refine n_ret ?_ | refine n_exit ?_ | refine n_label ?_ | refine n_scope ?_ | refine n_son ?_ | refine n_sback ?_) | (with_reducible (first | apply n_region | apply d_region); (simp only [JV, JU, JW, Nat.reduceAdd, Nat.zero_add]; exact rfl)) | (with_reducible (first | apply s_op | apply n_guard | apply n_cond | apply d_guard | apply d_op | apply n_fin | apply n_finb); (simp (maxDischargeDepth := 6) only [sy3.1, zY, qG, qP, qQ, qR, qS, qT, rowAt, ↓jg, ↓ji, Nat.reduceAdd, Nat.reduceEqDiff, ne_eq, jG, Nat.reduceLT, if_true, ite_true, Int.reduceLE, Int.reduceLT, Int.reduceEq, Int.reduceNeg, Int.reduceAdd, Nat.reduceSub, if_false, ite_false, fs_6.1, heapRow, hr, hi, hright, hof, decide_eq_true h1, kind_pure, kind_load, kind_fresh, kind_other, jg, ji, undef]; first | exact rfl | exact ⟨rfl, rfl, rfl, rfl⟩); try (with_reducible refine calmK_in ?_; decide +kernel)))
      exact quiet_end (by simp only [all_relogL, js, ju, List.all_nil, jt, Bool.and_self]) (by rfl) (.same h _)
    have d1 := decide_eq_false h1
    cases h2 : keepO hs k with
    | false =>
      rw [h2] at hkk
      rw [if_pos (.inr (.inl rfl))]
      repeat (first | with_reducible (first | refine n_on ?_ | refine n_seq ?_ | refine s_else ?_ | refine n_t ?_ | refine n_gt ?_ | refine d_t ?_ | refine n_nil ?_ | refine d_nil ?_ | refine n_block ?_ | refine n_skip ?_ | refine n_bon ?_ | refine n_bback ?_ | refine n_back ?_ | refine n_out ?_ | refine n_bout rfl ?_ | refine n_bfar rfl ?_ | refine n_ret ?_ | refine n_exit ?_ | refine n_label ?_ | refine n_scope ?_ | refine n_son ?_ | refine n_sback ?_) | (with_reducible (first | apply n_region | apply d_region); (simp only [JV, JU, JW, Nat.reduceAdd, Nat.zero_add]; exact rfl)) | (with_reducible (first | apply s_op | apply n_guard | apply n_cond | apply d_guard | apply d_op | apply n_fin | apply n_finb); (simp (maxDischargeDepth := 6) only [sy3.1, zY, qG, qP, qQ, qR, qS, qT, rowAt, ↓jg, ↓ji, Nat.reduceAdd, Nat.reduceEqDiff, ne_eq, jG, Nat.reduceLT, if_true, ite_true, Int.reduceLE, Int.reduceLT, Int.reduceEq, Int.reduceNeg, Int.reduceAdd, Nat.reduceSub, if_false, ite_false, fs_6.1, heapRow, hr, hi, hright, hof, d1, hkk, kind_pure, kind_load, kind_fresh, kind_other, jg, ji, undef]; first | exact rfl | exact ⟨rfl, rfl, rfl, rfl⟩); try (with_reducible refine calmK_in ?_; decide +kernel)))
      exact quiet_end (by simp only [all_relogL, js, ju, List.all_nil, jt, Bool.and_self]) (by rfl) (.same h _)
    | true =>
      rw [h2] at hkk
      cases h3 : keepO hs v with
      | false =>
        rw [h3] at hkv
        rw [if_pos (.inr (.inr rfl))]
        repeat (first | with_reducible (first | refine n_on ?_ | refine n_seq ?_ | refine s_else ?_ | refine n_t ?_ | refine n_gt ?_ | refine d_t ?_ | refine n_nil ?_ | refine d_nil ?_ | refine n_block ?_ | refine n_skip ?_ | refine n_bon ?_ | refine n_bback ?_ | refine n_back ?_ | refine n_out ?_ | refine n_bout rfl ?_ | refine n_bfar rfl ?_ | refine n_ret ?_ | refine n_exit ?_ | refine n_label ?_ | refine n_scope ?_ | refine n_son ?_ | refine n_sback ?_) | (with_reducible (first | apply n_region | apply d_region); (simp only [JV, JU, JW, Nat.reduceAdd, Nat.zero_add]; exact rfl)) | (with_reducible (first | apply s_op | apply n_guard | apply n_cond | apply d_guard | apply d_op | apply n_fin | apply n_finb); (simp (maxDischargeDepth := 6) only [sy3.1, zY, qG, qP, qQ, qR, qS, qT, rowAt, ↓jg, ↓ji, Nat.reduceAdd, Nat.reduceEqDiff, ne_eq, jG, Nat.reduceLT, if_true, ite_true, Int.reduceLE, Int.reduceLT, Int.reduceEq, Int.reduceNeg, Int.reduceAdd, Nat.reduceSub, if_false, ite_false, fs_6.1, heapRow, hr, hi, hright, hof, d1, hkk, hkv, kind_pure, kind_load, kind_fresh, kind_other, jg, ji, undef]; first | exact rfl | exact ⟨rfl, rfl, rfl, rfl⟩); try (with_reducible refine calmK_in ?_; decide +kernel)))
        exact quiet_end (by simp only [all_relogL, js, ju, List.all_nil, jt, Bool.and_self]) (by rfl) (.same h _)
      | true =>
        rw [h3] at hkv
        rw [if_neg (by simp [h1])]
        have hg := fun (X Y Z : AObj) (q : Nat) (lg : List Nat) => get_ok (n := n + 2) (lg := lg) (o := (((o.put nx (some X)).put (nx + 1) (some Y)).put (nx + 2) (some Z))) (nx := nx + (q + 3)) hO (hT.more (nx' := nx + (q + 3)) (by omega) fun x hx => by (repeat (first | rw [qE] | rw [qF _ _ _ _ (by omega)]))).at k
        simp only [vv] at hg
        have hu0 := hG.pool.used0
        have hle := hG.pool.le
        have hbd := hG.bound
        have hmx := hG.max
        have w0 : IntKind.i64.wrap (hs.pool.used + 2) = hs.pool.used + 2 := wrap_small _ (by omega) (by omega)
        by_cases hfull : (getL ob.tab k).1 = 0 ∧ v.1 ≠ 0 ∧ hs.max < hs.pool.used + 2
        · rw [if_pos hfull]
          repeat (first | with_reducible (first | refine n_on ?_ | refine n_seq ?_ | refine s_else ?_ | refine n_t ?_ | refine n_gt ?_ | refine d_t ?_ | refine n_nil ?_ | refine d_nil ?_ | refine n_block ?_ | refine n_skip ?_ | refine n_bon ?_ | refine n_bback ?_ | refine n_back ?_ | refine n_out ?_ | refine n_bout rfl ?_ | refine n_bfar rfl ?_ | refine n_ret ?_ | refine n_exit ?_ | refine n_label ?_ | refine n_scope ?_ | refine n_son ?_ | refine n_sback ?_) | (with_reducible (first | apply n_region | apply d_region); (simp only [JV, JU, JW, Nat.reduceAdd, Nat.zero_add]; exact rfl)) | (with_reducible (first | apply s_op | apply n_guard | apply n_cond | apply d_guard | apply d_op | apply n_fin | apply n_finb); (simp (maxDischargeDepth := 6) only [sy3.1, zY, qG, qP, qQ, qR, qS, qT, rowAt, ↓jg, ↓ji, Nat.reduceAdd, Nat.reduceEqDiff, ne_eq, jG, Nat.reduceLT, if_true, ite_true, Int.reduceLE, Int.reduceLT, Int.reduceEq, Int.reduceNeg, Int.reduceAdd, Nat.reduceSub, if_false, ite_false, fs_6.1, heapRow, obRow, hr, hi, hright, hof, d1, hkk, hkv, hro, hbl, hg, hU, w0, decide_eq_true hfull.1, decide_eq_false hfull.2.1, decide_eq_true hfull.2.2, kind_pure, kind_load, kind_fresh, kind_other, jg, ji, undef]; first | exact rfl | exact ⟨rfl, rfl, rfl, rfl⟩); try (with_reducible refine calmK_in ?_; decide +kernel)))
          exact quiet_end (by simp only [all_relogL, js, ju, List.all_nil, jt, Bool.and_self]) (by rfl) (.same h _)
        rw [if_neg hfull]
        obtain ⟨b1, b2, b3, e1, e2, e3, hb⟩ : ∃ b1 b2 b3, decide ((getL ob.tab k).1 = 0) = b1 ∧ decide (v.1 = 0) = b2 ∧ decide (hs.max < hs.pool.used + 2) = b3 ∧ (b1 = false ∨ (b1 = true ∧ b2 = true) ∨ (b1 = true ∧ b2 = false ∧ b3 = false)) := ⟨_, _, _, rfl, rfl, rfl, by
          simp only [decide_eq_false_iff_not, decide_eq_true_eq]
          by_cases a1 : (getL ob.tab k).1 = 0
          · by_cases a2 : v.1 = 0
            · exact .inr (.inl ⟨a1, a2⟩)
            · exact .inr (.inr ⟨a1, a2, fun a3 => hfull ⟨a1, a2, a3⟩⟩)
          · exact .inl a1⟩
        obtain ⟨hl1, hl2, hz⟩ := htl ob ho
        have hz := hz hfull
        have hmay := may_of hk0 h1 h2 h3
        have hwnx : ∀ x, nx ≤ x → w x = 0 := fun x hx => by
          by_cases e : w x = 0
          · exact e
          · have := h.wlt x e; omega
        have hmw : ∀ x, Mine ti tm ta x → w x ≠ 0 ∧ x ≠ B.bl t.2 := fun x hx => by
          have ho2 := hob.own
          simp only at ho2 hwi hwm hwt
          rcases hx with rfl | rfl | e
          · exact ⟨by rw [hwi]; omega, fun e => by rw [e, ho2] at hwi; omega⟩
          · exact ⟨by rw [hwm]; omega, fun e => by rw [e, ho2] at hwm; omega⟩
          · exact ⟨by rw [hwt x e]; omega, fun e3 => by have := hwt x e; rw [e3, ho2] at this; omega⟩
        simp only at hwi hwm hwt
        rcases hb with rfl | ⟨rfl, rfl⟩ | ⟨rfl, rfl, rfl⟩
        all_goals
          repeat (first | with_reducible (first | refine n_on ?_ | refine n_seq ?_ | refine s_else ?_ | refine n_t ?_ | refine n_gt ?_ | refine d_t ?_ | refine n_nil ?_ | refine d_nil ?_ | refine n_block ?_ | refine n_skip ?_ | refine n_bon ?_ | refine n_bback ?_ | refine n_back ?_ | refine n_out ?_ | refine n_bout rfl ?_ | refine n_bfar rfl ?_ | refine n_ret ?_ | refine n_exit ?_ | refine n_label ?_ | refine n_scope ?_ | refine n_son ?_ | refine n_sback ?_) | (with_reducible (first | apply n_region | apply d_region); (simp only [JV, JU, JW, Nat.reduceAdd, Nat.zero_add]; exact rfl)) | (with_reducible (first | apply s_op | apply n_guard | apply n_cond | apply d_guard | apply d_op | apply n_fin | apply n_finb); (simp (maxDischargeDepth := 6) only [sy3.1, zY, qG, qP, qQ, qR, qS, qT, rowAt, ↓jg, ↓ji, Nat.reduceAdd, Nat.reduceEqDiff, ne_eq, jG, Nat.reduceLT, if_true, ite_true, Int.reduceLE, Int.reduceLT, Int.reduceEq, Int.reduceNeg, Int.reduceAdd, Nat.reduceSub, if_false, ite_false, fs_6.1, heapRow, obRow, hr, hi, hright, hof, d1, hkk, hkv, hro, hbl, hg, hU, w0, e1, e2, e3, kind_pure, kind_load, kind_fresh, kind_other, jg, ji, undef]; first | exact rfl | exact ⟨rfl, rfl, rfl, rfl⟩); try (with_reducible refine calmK_in ?_; decide +kernel)))
          refine d_or (SetDoneL (((o.put nx (some (.row [.int .u8 t.1, .int .i64 t.2] 29 0 true))).put (nx + 1) (some (.row [.int .u8 k.1, .int .i64 k.2] 29 0 true))).put (nx + 2) (some (.row [.int .u8 v.1, .int .i64 v.2] 29 0 true))) _ [] ti tm ta ob.tab (setL ob.tab k v)) 2 4 (by
            simp (maxDischargeDepth := 6) only [sy3.1, zY, qG, qP, qQ, qR, qS, qT, rowAt, ↓jg, ↓ji, Nat.reduceAdd, Nat.reduceEqDiff, ne_eq, jG, Nat.reduceLT, if_true, ite_true, Int.reduceLE, Int.reduceLT, Int.reduceEq, Int.reduceNeg, Int.reduceAdd, Nat.reduceSub, if_false, ite_false, fs_6.1]
            exact set_log hO (hT.more (by omega) fun x hx => by (repeat (first | rw [qE] | rw [qF _ _ _ _ (by omega)]))) hmay (show ob.tab.length < n from Nat.lt_of_succ_lt hl2) (show ob.tab.length < 65536 from Nat.lt_trans hl1 (by decide))) (fun r hr => ?_) (by decide +kernel) (by decide +kernel) ?_
          · obtain ⟨o', nx', lg', a', rfl, _, _, _, _, _, hlx⟩ := hr
            rcases hlx with ⟨x, hx, _⟩ | ⟨_, rfl, rfl, _⟩
            · refine .inr ?_
              show cond lg'.isEmpty (cond (Nat.beq _ nx' && lg'.isEmpty) 2 3) 4 = _
              cases lg' with
              | nil => cases hx
              | cons y ys => rfl
            · refine .inl ?_
              show cond (List.isEmpty ([] : List Nat)) (cond (Nat.beq _ _ && true) 2 3) 4 = _
              rw [Nat.beq_refl]; rfl
          rintro v1 o1 nx1 lg1 ⟨_, _, _, ta1, heq, hT1, hn1, hfr1, hta1, _, _⟩ cl1 n1 hn4
          cases heq
          have hbx := hfr1 nx (by omega) (fun hx => (hmw nx hx).1 (hwnx nx (Nat.le_refl _)))
          have hro1 := hfr1 (B.bl t.2) (by omega) (fun hx => (hmw _ hx).2 rfl)
          have hA := (h.more (o' := (((o.put nx (some (.row [.int .u8 t.1, .int .i64 t.2] 29 0 true))).put (nx + 1) (some (.row [.int .u8 k.1, .int .i64 k.2] 29 0 true))).put (nx + 2) (some (.row [.int .u8 v.1, .int .i64 v.2] 29 0 true)))) (nx' := nx + 65) (by omega) fun x hx => by (repeat (first | rw [qE] | rw [qF _ _ _ _ (by omega)]))).tabbed hG hm (hkd.trans ht1) (sp := sp) (ca := ca) (cc := cc) (zz := zz) (by (repeat (first | rw [qE] | rw [qF _ _ _ _ (by omega)])); exact hro) (hT.more (by omega) fun x hx => by (repeat (first | rw [qE] | rw [qF _ _ _ _ (by omega)]))) hwi hwm hwt hn1 hT1 hfr1 hta1
          rcases hn4 with rfl | rfl
          all_goals
            ((with_reducible (first | apply s_op | apply n_guard | apply n_cond | apply d_guard | apply d_op | apply n_fin | apply n_finb)); (simp (maxDischargeDepth := 6) only [sy3.1, zY, qG, qP, qQ, qR, qS, qT, rowAt, ↓jg, ↓ji, Nat.reduceAdd, Nat.reduceEqDiff, ne_eq, jG, Nat.reduceLT, if_true, ite_true, Int.reduceLE, Int.reduceLT, Int.reduceEq, Int.reduceNeg, Int.reduceAdd, Nat.reduceSub, if_false, ite_false, fs_6.1, kind_pure, kind_load, kind_fresh, kind_other, jg, ji, undef]; first | exact rfl | exact ⟨rfl, rfl, rfl, rfl⟩); try (with_reducible refine calmK_in ?_; decide +kernel))
            refine d_nil ?_
            refine n_on ?_
            refine hset_tail hO h hG hA hT1 (sp := sp) (ca := ca) (cc := cc) (zz := zz) ?_ ?_ (by omega) (fun e => ?_) (by omega) (fun x hx hw0 => ?_) hl1 hl2 hn hz ?_ ?_ ?_ ?_
            · rw [hro1]; (repeat (first | rw [qE] | rw [qF _ _ _ _ (by omega)])); exact hro
            · rw [hbx]; (repeat (first | rw [qE] | rw [qF _ _ _ _ (by omega)]))
            · unfold markT at e
              by_cases e2 : ta1 = some nx
              · rcases hta1 with rfl | ⟨j, rfl, hj⟩
                · exact (hmw nx (.inr (.inr e2))).1 (hwnx nx (Nat.le_refl _))
                · cases e2; omega
              · rw [if_neg e2] at e; exact e (hwnx nx (Nat.le_refl _))
            · refine ⟨?_, ?_⟩
              · rw [hfr1 x (by omega) (fun hx => (hmw x hx).1 hw0)]; (repeat (first | rw [qE] | rw [qF _ _ _ _ (by omega)]))
              · unfold markT
                rw [if_neg (fun e2 => ?_)]
                · exact hw0
                · rcases hta1 with rfl | ⟨j, rfl, hj⟩
                  · exact (hmw x (.inr (.inr e2))).1 hw0
                  · cases e2; omega
            · simp only [qG, qC, qD, qE, qF, Tr.get_nil, ne_eq, not_false_eq_true, Nat.reduceEqDiff]
            · simp only [qG, qC, qD, qE, qF, Tr.get_nil, ne_eq, not_false_eq_true, Nat.reduceEqDiff]
            · simp only [qG, qC, qD, qE, qF, Tr.get_nil, ne_eq, not_false_eq_true, Nat.reduceEqDiff]
            · simp only [qG, qC, qD, qE, qF, Tr.get_nil, ne_eq, not_false_eq_true, Nat.reduceEqDiff]
end
end Go.Proofs.YtdfadipfhcikdaaGreatDoor
