/- A loop over a map's range, whatever order is drawn. No program in sight. -/
import Derived.Test.YthnlkahgmbadoaaNdRange
set_option linter.unusedSimpArgs false
set_option linter.unusedVariables false
namespace Go.Proofs.Ythnlkahgmbadoaa
open Go.RowKit Go.ChangeMaps

theorem entry_wp {P : Program} {nt : Nat} {call : CallFn} (hc : CallSound P [] call) {id : Nat} {ti te : Tmp} {ty : TypeId} {p : String} {f : Array Edge} {ops : List Oper} (hd : dstOk nt (some te) = true) (hk : chkOps [] nt ops = true)
    {β : Ren} {H : AHeap} {w : World} {a : Act} {env : Tr Value} {j m ck : Nat} {es : List MapEntry} {seen : List Nat} {e : MapEntry} (hwf : WF H) (hr : Rel β H w) (he : EnvRel β env a nt) (ht : env.get ti = some (.pointer (some ⟨j, 0, none⟩))) (hi : IterAt β H w j m es ck (seen ++ [e.born])) (hm : e ∈ es) {Q : Tr Value → AHeap → Prop} {K : Exit → Act → World → Prop}
    (h : Got (rOps P call (⟨some te, .entry (.tmp ti), ty, p, f, none⟩ :: ops) H.next ops 1 (putE env (some te) (.tuple #[e.key, e.val])) { H with next := H.next + (ops.length + 1) }) fun r => Q r.1 r.2)
    (hK : ∀ env' H' β' a' w', Q env' H' → WF H' → LogLe H.next H H' → Goes β H w β' H' w' → EnvRel β' env' a' nt → K .normal a' w') :
    (Code.region id (⟨some te, .entry (.tmp ti), ty, p, f, none⟩ :: ops).toArray false).wp P K a w := by
  obtain ⟨sj, sm, h1, h2, h3, h4, h5⟩ := hi.ex
  obtain ⟨_, hB, es', g1, g2, g3⟩ := hr.obj _ _ _ hi.map h3
  obtain ⟨b1, b2⟩ := born_world hB g2 g3
  have hev := eval_ptr he ht h1 h2
  obtain ⟨e', k1, q1, q2, q3, q4⟩ := entry_to g2 g3 hm
  have hrun := run_entry_at (P := P) w sj.blk sm.blk ck seen.toArray es' ck e' (by rw [h4, q3]; simp) g1 k1 b2
  obtain ⟨⟨env1, H1⟩, hops, hQ⟩ := h
  rw [← rOps_eq (gs := []) (nt := nt) ops 1 _ _ hk] at hops
  obtain ⟨l1, l2⟩ := aOps_sound hc (⟨some te, .entry (.tmp ti), ty, p, f, none⟩ :: ops).toArray nt H.next ops 1 _ _ env1 H1 (by simp) hops (by simp) ((widen_log H _).wf hwf)
  have hvr : VR β (.tuple #[e.key, e.val]) (.tuple #[e'.key, e'.val]) := by
    refine .tuple rfl fun i x y hx hy => ?_
    match i, hx, hy with
    | 0, hx, hy => simp at hx hy; subst hx hy; rw [q2]; exact (flat2_vr q1 β).1
    | 1, hx, hy => simp at hx hy; subst hx hy; exact q4
    | i + 2, hx, _ => simp at hx
  apply wp_region
  rw [List.range_eq_range']
  have hlen : (⟨some te, .entry (.tmp ti), ty, p, f, none⟩ :: ops).toArray.size = ops.length + 1 := by simp
  rw [hlen]
  refine ops_one (o := ⟨some te, .entry (.tmp ti), ty, p, f, none⟩) rfl rfl (v := .tuple #[e'.key, e'.val]) (w' := w) (by simp only [execOp, hev, Sem.run_bind, hrun, Result.andThen_ok, Sem.run_pure]) ?_
  have hL := (widen_log H (ops.length + 1)).trans l1
  exact l2 β _ w (widen_rel hr _) (fun g hg => by cases hg) (he.put (dst := some te) hvr hd) (fun i _ _ => hr.fresh _ (Nat.le_add_right _ _)) K fun β' a' w' r1 r2 r3 => hK _ _ _ _ _ hQ (hL.wf hwf) hL (widen_goes r1) r3
theorem eval_bool {β : Ren} {env : Tr Value} {a : Act} {nt : Nat} (he : EnvRel β env a nt) (t : Tmp) (v : Bool) (h : env.get t = some (.bool v)) : a.eval (.tmp t) = .bool v := by
  have hv := he.val t
  rw [h] at hv
  simp only [Option.getD_some] at hv
  show a.tmps.getD t undef = _
  generalize a.tmps.getD t undef = u at hv
  cases hv; rfl
theorem left_less {es : List MapEntry} {seen : List Nat} {x : MapEntry} (h : x ∈ leftE es seen) : (leftE es (seen ++ [x.born])).length < (leftE es seen).length := by
  have e1 : leftE es (seen ++ [x.born]) = (leftE es seen).filter fun e => !(e.born == x.born) := by
    unfold leftE
    rw [List.filter_filter]
    congr 1
    funext e
    have e2 : (seen ++ [x.born]).contains e.born = (seen.contains e.born || e.born == x.born) := by
      rw [List.contains_append]; simp only [List.contains_cons, List.contains_nil, Bool.or_false]
    rw [e2, Bool.not_or, Bool.and_comm]
  rw [e1]
  refine Nat.lt_of_le_of_ne (List.length_filter_le _ _) fun e => ?_
  have := List.length_filter_eq_length_iff.1 e x h
  simp at this

set_option maxHeartbeats 1000000 in
/-- a range over a map that the rounds leave as it is: whatever order is drawn -/
theorem holds_range {P : Program} {nt : Nat} {call : CallFn} {fuel : Nat} {T kt et : TypeId} (hT : P.underlying T = some (.map kt et)) (hc : CallSound P [] call) (hmx : P.follows .mixedOrders = true) {id1 id2 id3 b4 b5 : Nat} {ts tr ti tn tb te : Tmp}
    {ty0 ty1 ty2 ty3 ty4 : TypeId} {p0 p1 p2 p3 p4 : String} {f0 f1 f2 f3 f4 : Array Edge} {ops : List Oper} {B : Code} (hd : (dstOk nt (some tr) && (dstOk nt (some ti) && (dstOk nt (some tn) && (dstOk nt (some tb) && dstOk nt (some te))))) = true) (hn1 : ti ≠ tn) (hn2 : ti ≠ tb) (hko : chkOps [] nt ops = true) (hkB : chk [] nt B = true)
    {env : Tr Value} {H : AHeap} {m ck : Nat} {es : List MapEntry} (hs : env.get ts = some (.map (some m))) (hmm : H.get m = some (.map es ck)) {Q : St → Prop} (I : List Nat → Tr Value → AHeap → Prop)
    (h0 : I [] (putE (putE env (some tr) (.map (some m))) (some ti) (.pointer (some ⟨H.next, 0, none⟩))) { H with next := H.next + 1 })
    (hI : ∀ seen e h, I seen e h → e.get ti = some (.pointer (some ⟨H.next, 0, none⟩)) ∧ h.get m = some (.map es ck))
    (hend : ∀ seen e h, I seen e h → leftE es seen = [] → Q (.on, putE (putE e (some tn) (.tuple #[.bool false])) (some tb) (.bool false), h))
    (hstep : ∀ seen e h x, I seen e h → x ∈ leftE es seen → Got (rOps P call (⟨some te, .entry (.tmp ti), ty4, p4, f4, none⟩ :: ops) h.next ops 1 (putE (putE (putE e (some tn) (.tuple #[.bool true, x.key, x.val])) (some tb) (.bool true)) (some te) (.tuple #[x.key, x.val])) { h with next := h.next + (ops.length + 1) }) fun r =>
      Got (rCode P call fuel B r.1 r.2) (outOf b5 fun s => ∃ e' h', s = (.on, e', h') ∧ I (seen ++ [x.born]) e' h')) :
    Holds P nt (.seq (.region id1 #[⟨some tr, .move (.tmp ts), ty0, p0, f0, none⟩, ⟨some ti, .range T (.tmp tr), ty1, p1, f1, none⟩] false)
      (.block b4 (.loop (.seq (.region id2 #[⟨some tn, .next (.tmp ti) false, ty2, p2, f2, none⟩, ⟨some tb, .extract (.tmp tn) 0, ty3, p3, f3, none⟩] false) (.seq (.cond (.tmp tb) .skip (.exit b4))
        (.block b5 (.seq (.region id3 (⟨some te, .entry (.tmp ti), ty4, p4, f4, none⟩ :: ops).toArray false) B))))))) env H Q := by
  simp only [Bool.and_eq_true] at hd
  obtain ⟨hd1, hd2, hd3, hd4, hd5⟩ := hd
  intro hwf β a w hr he K hK
  refine wp_seq (range_wp hT hd1 hd2 hwf hr he hs hmm fun β1 a1 w1 G1 E1 IT1 hlo1 => ?_)
  show (Code.block b4 _).wp P K a1 w1
  refine wp_block (wp_loop_rounds ((leftE es []).length + 1) ?_)
  have key : ∀ (q : Nat) (seen : List Nat) (e : Tr Value) (h : AHeap) (β2 : Ren) (a2 : Act) (w2 : World), (leftE es seen).length < q → I seen e h → WF h → LogLe H.next H h → Goes β H w β2 h w2 → EnvRel β2 e a2 nt → IterAt β2 h w2 H.next m es ck seen → (∃ sj, β2 H.next = some sj ∧ w.heap.size ≤ sj.blk) →
      Code.rounds P (.seq (.region id2 #[⟨some tn, .next (.tmp ti) false, ty2, p2, f2, none⟩, ⟨some tb, .extract (.tmp tn) 0, ty3, p3, f3, none⟩] false) (.seq (.cond (.tmp tb) .skip (.exit b4))
        (.block b5 (.seq (.region id3 (⟨some te, .entry (.tmp ti), ty4, p4, f4, none⟩ :: ops).toArray false) B)))) (Exit.inBlock b4 K) q a2 w2 := by
    intro q
    induction q with
    | zero => intro seen e h β2 a2 w2 hq; exact absurd hq (Nat.not_lt_zero _)
    | succ q ih =>
      intro seen e h β2 a2 w2 hq hi hwf2 hL hG hE hIT hlo
      obtain ⟨hti, hmp⟩ := hI seen e h hi
      obtain ⟨sj, hsj, hsl⟩ := hlo
      rw [rounds_succ]
      refine wp_seq (next_wp hd3 hd4 hG hE hti hIT (fun s hs => by rw [hsj] at hs; cases hs; exact hsl) (fun hl a3 E3 => ?_) (fun x hx a3 w3 G3 IT3 E3 => ?_))
      · refine wp_seq (wp_cond_false (eval_bool E3 tb false (by rw [qC, qE])) (wp_exit ?_))
        show Exit.inBlock b4 K (.exit b4) a3 w2
        simp only [Exit.inBlock, if_true]
        exact hK .on _ _ _ _ _ (hend seen e h hi hl) hwf2 hL hG E3
      · refine wp_seq (wp_cond_true (eval_bool E3 tb true (by rw [qC, qE])) (wp_skip ?_))
        have hti2 : (putE (putE e (some tn) (.tuple #[.bool true, x.key, x.val])) (some tb) (.bool true)).get ti = some (.pointer (some ⟨H.next, 0, none⟩)) := by
          rw [qC, qC, qF _ _ _ _ hn2, qF _ _ _ _ hn1]; exact hti
        refine wp_block (wp_seq (entry_wp (Q := fun e4 h4 => Got (rCode P call fuel B e4 h4) (outOf b5 fun s => ∃ e' h', s = (.on, e', h') ∧ I (seen ++ [x.born]) e' h')) hc hd5 hko hwf2 G3.rel E3 hti2 IT3 (List.mem_filter.1 hx).1 (hstep seen e h x hi hx) (fun env4 H4 β4 a4 w4 q0 q1 q2 q3 q4 => ?_)))
        refine holds_got hc hmx hkB q0 q1 β4 a4 w4 q3.rel q4 _ (fun way e5 H5 β5 a5 w5 r0 r1 r2 r3 r4 => ?_)
        have hLL := q2.trans (r2.mono q2.next)
        have next : I (seen ++ [x.born]) e5 H5 → Code.rounds P (.seq (.region id2 #[⟨some tn, .next (.tmp ti) false, ty2, p2, f2, none⟩, ⟨some tb, .extract (.tmp tn) 0, ty3, p3, f3, none⟩] false) (.seq (.cond (.tmp tb) .skip (.exit b4))
            (.block b5 (.seq (.region id3 (⟨some te, .entry (.tmp ti), ty4, p4, f4, none⟩ :: ops).toArray false) B)))) (Exit.inBlock b4 K) q a5 w5 := fun hi5 =>
          ih (seen ++ [x.born]) e5 H5 β5 a5 w5 (by have := left_less hx; omega) hi5 r1 (hL.trans (hLL.mono hL.next)) (G3.trans (q3.trans r3)) r4 (IT3.goes G3.rel (q3.trans r3) hLL (hI _ _ _ hi5).2) ⟨sj, (q3.trans r3).le _ _ hsj, hsl⟩
        cases way with
        | on =>
          obtain ⟨e6, h6, heq, hi5⟩ := r0
          cases heq
          exact next hi5
        | back =>
          obtain ⟨e6, h6, heq, hi5⟩ := r0
          cases heq
        | out i =>
          rw [zx] at r0
          cases hb : Nat.beq i b5 with
          | true =>
            have := Nat.eq_of_beq_eq_true hb
            subst this
            rw [hb] at r0
            obtain ⟨e6, h6, heq, hi5⟩ := r0
            cases heq
            simp only [exitOf, Exit.inBlock, if_true]
            exact next hi5
          | false =>
            rw [hb] at r0
            obtain ⟨e6, h6, heq, hi5⟩ := r0
            cases heq
  exact key _ [] _ _ β1 a1 w1 (Nat.lt_succ_self _) h0 (fun i hi => hwf i (by have hi : H.next + 1 ≤ i := hi; omega)) (widen_log H 1) G1 E1 IT1 hlo1
end Go.Proofs.Ythnlkahgmbadoaa
