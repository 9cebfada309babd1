/- LibGoes: pairs is asked. -/
import Derived.Test.YtdfadipfhcikdaaGreatDoorGoLaw2
namespace Go.Proofs.YtdfadipfhcikdaaGreatDoor
open Go.RowKit
set_option linter.unusedSimpArgs false
set_option linter.unusedVariables false
set_option maxRecDepth 100000

def numFn (args : List Value) (H : AHeap) : Option (Value × AHeap) := match args with
  | [.string s] => if s.data.toList = [112, 97, 105, 114, 115] then some (.int .i64 12, H) else if s.data.toList = [105, 112, 97, 105, 114, 115] then some (.int .i64 13, H) else none
  | _ => none
def goR1 (f : Func) : Code := sqR (goW f)
def goR2 (f : Func) : Code := sqR (sqR (sqR (sqR (goR1 f))))
section
variable {O : Helps} {n : Nat} {o : Tr AObj} {nx : Nat} {lg : List Nat} {w : Nat → Nat} {B : HB}
theorem num_pairs (hN : O 9 = some numFn) : ∀ (o : Tr AObj) (nx : Nat) (lg : List Nat), oCall Tryz.prog [] O (n + 1) 9 [.string ⟨#[112, 97, 105, 114, 115]⟩] ⟨o, nx, lg⟩ = some (.int .i64 12, ⟨o, nx, lg⟩) := fun o nx lg => by
  simp only [oCall, hN]; rfl
theorem num_ipairs (hN : O 9 = some numFn) : ∀ (o : Tr AObj) (nx : Nat) (lg : List Nat), oCall Tryz.prog [] O (n + 1) 9 [.string ⟨#[105, 112, 97, 105, 114, 115]⟩] ⟨o, nx, lg⟩ = some (.int .i64 13, ⟨o, nx, lg⟩) := fun o nx lg => by
  simp only [oCall, hN]; rfl
theorem done_kind {ρ : Operand → Value} {fid : Nat} {H0 : AHeap} {op : Op} {l : List VV} {f : Operand} {ar : Array Operand} {ts : Array TypeId} (ho : op = .call { callee := .value f, args := ar, argTypes := ts }) (hn : H0.next ≤ nx) : ∀ r, DoneTo o nx [] l r → kindOf (zY ρ fid H0 r.2 op) = 3 := by
  rintro r ⟨q, o1, nx1, rfl, h1, h2, _⟩
  subst ho
  show cond ([] : List Nat).isEmpty (cond (Nat.beq H0.next nx1 && ([] : List Nat).isEmpty) 2 3) 4 = 3
  have : Nat.beq H0.next nx1 = false := by
    rw [← Bool.not_eq_true, Nat.beq_eq]; omega
  rw [this]; rfl
theorem ix30 {q c : Nat} : indexAt (none, 2) (.slice (some ⟨q, 0, none⟩) 3 c) (.int .i64 0) = some (.pointer (some ⟨q, 0, none⟩)) := rfl
theorem ix31 {q c : Nat} : indexAt (none, 2) (.slice (some ⟨q, 0, none⟩) 3 c) (.int .i64 1) = some (.pointer (some ⟨q, 2, none⟩)) := rfl
theorem ix32 {q c : Nat} : indexAt (none, 2) (.slice (some ⟨q, 0, none⟩) 3 c) (.int .i64 2) = some (.pointer (some ⟨q, 4, none⟩)) := rfl
theorem ix20 {q c : Nat} : indexAt (none, 2) (.slice (some ⟨q, 0, none⟩) 2 c) (.int .i64 0) = some (.pointer (some ⟨q, 0, none⟩)) := rfl
theorem ix10 {q c : Nat} : indexAt (none, 2) (.slice (some ⟨q, 0, none⟩) 1 c) (.int .i64 0) = some (.pointer (some ⟨q, 0, none⟩)) := rfl
theorem cut6a {a b c d e f : Value} : cut [a, b, c, d, e, f] 2 2 = some [c, d] := rfl
theorem cut6b {a b c d e f : Value} : cut [a, b, c, d, e, f] 4 2 = some [e, f] := rfl
/-- behind pairs -/
structure MidE (bi b5 : Nat) (ks : List Nat) (a7 : Option Nat) (rw : Nat) (e : Tr Value) : Prop where
  g3 : e.get 3 = some (.pointer (some ⟨bi, 0, none⟩))
  g5 : e.get 5 = some (.pointer (some ⟨b5, 0, none⟩))
  g7 : e.get 7 = some (.slice (slA a7) (2 * ks.length) 0)
  g8 : e.get 8 = some (.int .i64 (.ofNat rw))
/-- the walk's memory: what was told (b, q), where it stands (b13), what it has (a12) -/
structure L2 (bs : List Bool) (bi b5 : Nat) (ks : List Nat) (o : Tr AObj) (nx : Nat) (w : Nat → Nat) (B : HB) (a7 : Option Nat) (b q b13 : Nat) (f x : Int) (a12 : Option Nat) (r : Nat) (v : VV) : Prop where
  M : GoIn bs bi b5 ks o nx w B a7
  r11 : o.get b = some (.row [.int .u8 1, .slice (some ⟨q, 0, none⟩) 3 0, .bool false, .string ⟨#[]⟩] 37 0 true)
  rq : o.get q = some (.row [.int .u8 7, .int .i64 f, .int .u8 5, .int .i64 1, .int .u8 x, .int .i64 0] 29 2 true)
  r13 : o.get b13 = some (.row [.int .u8 v.1, .int .i64 v.2] 29 0 true)
  l11 : b < nx
  lq : q < nx
  l13 : b13 < nx
  n13 : b13 ≠ b ∧ b13 ≠ q ∧ b13 ≠ b5 ∧ b13 ≠ 0 ∧ a7 ≠ some b13 ∧ w b13 = 0
  a : (a12 = none ∧ r = 0) ∨ ∃ j, a12 = some j ∧ j < nx ∧ (j ≠ b ∧ j ≠ q ∧ j ≠ b5 ∧ j ≠ 0 ∧ a7 ≠ some j ∧ w j = 0) ∧ j ≠ b13 ∧ o.get j = some (.row (vvCells (wantL (ks.take r))) 29 2 true)
theorem GoIn.w7 {bs : List Bool} {bi b5 : Nat} {ks : List Nat} {o : Tr AObj} {nx : Nat} {w : Nat → Nat} {B : HB} {a7 : Option Nat} (h : GoIn bs bi b5 ks o nx w B a7) {x : Nat} (hx : nx ≤ x) : a7 ≠ some x ∧ w x = 0 := by
  constructor
  · intro e
    rcases h.want with ⟨h1, _⟩ | ⟨j, h1, _, _, h2, _⟩
    · rw [h1] at e; cases e
    · rw [h1] at e; cases e; omega
  · by_cases ee : w x = 0
    · exact ee
    · have := h.heap.wlt x ee; omega
theorem L2.more {bs : List Bool} {bi b5 : Nat} {ks : List Nat} {o : Tr AObj} {nx : Nat} {w : Nat → Nat} {B : HB} {a7 : Option Nat} {b q b13 : Nat} {f x : Int} {a12 : Option Nat} {r : Nat} {v : VV} (h : L2 bs bi b5 ks o nx w B a7 b q b13 f x a12 r v) {o' : Tr AObj} {nx' : Nat} (hn : nx ≤ nx') (hk : ∀ x, x < nx → o'.get x = o.get x) : L2 bs bi b5 ks o' nx' w B a7 b q b13 f x a12 r v :=
  ⟨h.M.more hn hk, (hk _ h.l11).trans h.r11, (hk _ h.lq).trans h.rq, (hk _ h.l13).trans h.r13, Nat.lt_of_lt_of_le h.l11 hn, Nat.lt_of_lt_of_le h.lq hn, Nat.lt_of_lt_of_le h.l13 hn, h.n13, h.a.imp id fun ⟨j, q1, q2, q3, q4, q5⟩ => ⟨j, q1, by omega, q3, q4, (hk j q2).trans q5⟩⟩
/-- b13 is turned, the list told anew -/
theorem L2.turn {bs : List Bool} {bi b5 : Nat} {ks : List Nat} {o : Tr AObj} {nx : Nat} {w : Nat → Nat} {B : HB} {a7 : Option Nat} {b q b13 : Nat} {f x : Int} {a12 : Option Nat} {r : Nat} {v : VV} (h : L2 bs bi b5 ks o nx w B a7 b q b13 f x a12 r v) {o' : Tr AObj} {nx' j' r' : Nat} {v' : VV} (hn : nx ≤ nx') (hj : nx ≤ j') (hj2 : j' < nx') (hk : ∀ x, x < nx → x ≠ b13 → a12 ≠ some x → o'.get x = o.get x)
    (h13 : o'.get b13 = some (.row [.int .u8 v'.1, .int .i64 v'.2] 29 0 true)) (hr : o'.get j' = some (.row (vvCells (wantL (ks.take r'))) 29 2 true)) : L2 bs bi b5 ks o' nx' w B a7 b q b13 f x (some j') r' v' := by
  obtain ⟨n1, n2, n3, n4, n5, n6⟩ := h.n13
  have hj12 : ∀ y, a12 = some y → (y ≠ b ∧ y ≠ q ∧ y ≠ b5 ∧ y ≠ 0 ∧ a7 ≠ some y ∧ w y = 0) := fun y e => by
    rcases h.a with ⟨h1, _⟩ | ⟨j, h1, _, h2, _⟩
    · rw [h1] at e; cases e
    · rw [h1] at e; cases e; exact h2
  have hw' := h.M.w7 hj
  have l11 := h.l11; have lq := h.lq; have l13 := h.l13; have lt5 := h.M.lt5; have p5 := h.M.p5
  refine ⟨⟨h.M.heap.keep hn (fun x hx => by have := h.M.heap.wlt x hx; omega) fun x hx => ⟨hk x (h.M.heap.wlt x hx) (fun e => hx (by rw [e]; exact n6)) (fun e => hx (hj12 x e).2.2.2.2.2), rfl⟩, h.M.hB, h.M.w0, ?_, h.M.w5, by omega, p5, ?_, ?_⟩, ?_, ?_, h13, by omega, by omega, by omega, h.n13, .inr ⟨j', rfl, hj2, ⟨by omega, by omega, by omega, by omega, hw'⟩, by omega, hr⟩⟩
  · exact (hk 0 (by omega) (fun e => n4 e.symm) (fun e => (hj12 _ e).2.2.2.1 rfl)).trans h.M.row
  · exact (hk b5 lt5 (fun e => n3 e.symm) (fun e => (hj12 _ e).2.2.1 rfl)).trans h.M.r5
  · rcases h.M.want with h1 | ⟨j, h1, h2, h3, h4, h5, h6⟩
    · exact .inl h1
    · exact .inr ⟨j, h1, h2, h3, by omega, h5, (hk j h4 (fun e => n5 (by rw [h1, e])) (fun e => (hj12 _ e).2.2.2.2.1 h1)).trans h6⟩
  · exact (hk b l11 (fun e => n1 e.symm) (fun e => (hj12 _ e).1 rfl)).trans h.r11
  · exact (hk q lq (fun e => n2 e.symm) (fun e => (hj12 _ e).2.1 rfl)).trans h.rq
/-- b13 alone is turned -/
theorem L2.turn0 {bs : List Bool} {bi b5 : Nat} {ks : List Nat} {o : Tr AObj} {nx : Nat} {w : Nat → Nat} {B : HB} {a7 : Option Nat} {b q b13 : Nat} {f x : Int} {a12 : Option Nat} {r : Nat} {v : VV} (h : L2 bs bi b5 ks o nx w B a7 b q b13 f x a12 r v) {o' : Tr AObj} {nx' : Nat} {v' : VV} (hn : nx ≤ nx') (hk : ∀ x, x < nx → x ≠ b13 → o'.get x = o.get x)
    (h13 : o'.get b13 = some (.row [.int .u8 v'.1, .int .i64 v'.2] 29 0 true)) : L2 bs bi b5 ks o' nx' w B a7 b q b13 f x a12 r v' := by
  obtain ⟨n1, n2, n3, n4, n5, n6⟩ := h.n13
  have l11 := h.l11; have lq := h.lq; have l13 := h.l13; have lt5 := h.M.lt5; have p5 := h.M.p5
  refine ⟨⟨h.M.heap.keep hn (fun x hx => by have := h.M.heap.wlt x hx; omega) fun x hx => ⟨hk x (h.M.heap.wlt x hx) (fun e => hx (by rw [e]; exact n6)), rfl⟩, h.M.hB, h.M.w0, ?_, h.M.w5, by omega, p5, ?_, ?_⟩, ?_, ?_, h13, by omega, by omega, by omega, h.n13, ?_⟩
  · exact (hk 0 (by omega) (fun e => n4 e.symm)).trans h.M.row
  · exact (hk b5 lt5 (fun e => n3 e.symm)).trans h.M.r5
  · rcases h.M.want with h1 | ⟨j, h1, h2, h3, h4, h5, h6⟩
    · exact .inl h1
    · exact .inr ⟨j, h1, h2, h3, by omega, h5, (hk j h4 (fun e => n5 (by rw [h1, e]))).trans h6⟩
  · exact (hk b l11 (fun e => n1 e.symm)).trans h.r11
  · exact (hk q lq (fun e => n2 e.symm)).trans h.rq
  · rcases h.a with h1 | ⟨j, h1, h2, h3, h4, h5⟩
    · exact .inl h1
    · exact .inr ⟨j, h1, by omega, h3, h4, (hk j h2 h4).trans h5⟩
/-- another told thing -/
theorem L2.told {bs : List Bool} {bi b5 : Nat} {ks : List Nat} {o : Tr AObj} {nx : Nat} {w : Nat → Nat} {B : HB} {a7 : Option Nat} {b q b13 b' q' : Nat} {f x f' x' : Int} {a12 : Option Nat} {r : Nat} {v : VV} (h : L2 bs bi b5 ks o nx w B a7 b q b13 f x a12 r v) {o' : Tr AObj} {nx' : Nat} (hn : nx ≤ nx') (hk : ∀ x, x < nx → o'.get x = o.get x)
    (hb : nx ≤ b' ∧ b' < nx') (hq : nx ≤ q' ∧ q' < nx') (rb : o'.get b' = some (.row [.int .u8 1, .slice (some ⟨q', 0, none⟩) 3 0, .bool false, .string ⟨#[]⟩] 37 0 true)) (rq : o'.get q' = some (.row [.int .u8 7, .int .i64 f', .int .u8 5, .int .i64 1, .int .u8 x', .int .i64 0] 29 2 true)) : L2 bs bi b5 ks o' nx' w B a7 b' q' b13 f' x' a12 r v := by
  have h' := h.more hn hk
  have l13 := h.l13
  refine ⟨h'.M, rb, rq, h'.r13, hb.2, hq.2, h'.l13, ⟨by omega, by omega, h.n13.2.2⟩, h'.a.imp id fun ⟨j, q1, q2, q3, q4, q5⟩ => ⟨j, q1, q2, ?_, q4, q5⟩⟩
  have : j < nx := by
    rcases h.a with ⟨h1, _⟩ | ⟨j', h1, h2, _⟩
    · rw [h1] at q1; cases q1
    · rw [h1] at q1; cases q1; exact h2
  exact ⟨by omega, by omega, q3.2.2⟩
def MidSt (bs : List Bool) (bi b5 : Nat) (ks : List Nat) (rw : Nat) (r : Nat) (v : VV) (e : Tr Value) (H : AHeap) : Prop :=
  ∃ o nx lg w B a7 b q b13 a12, H = (⟨o, nx, lg⟩ : AHeap) ∧ L2 bs bi b5 ks o nx w B a7 b q b13 11 0 a12 r v ∧ MidE bi b5 ks a7 rw e ∧ e.get 11 = some (.pointer (some ⟨b, 0, none⟩)) ∧ e.get 12 = some (.slice (slA a12) (2 * r) 0) ∧ e.get 13 = some (.pointer (some ⟨b13, 0, none⟩))
set_option maxHeartbeats 64000000 in
theorem go_mid (hO : Clear O) (hN : O 9 = some numFn) {bs : List Bool} {oa : Option Addr} {bi b5 m i : Nat} {e : Tr Value} {H : AHeap} {Q : St → Prop} (h : GoSt bs oa bi b5 i m e H)
    (hK : ∀ e' H', MidSt bs bi b5 (kOf bs m) (rOf bs m) 0 (0, 0) e' H' → Got (rCode Tryz.prog (oCall Tryz.prog [] O 9999) 9999 (goR2 Tryz.f3) e' H') Q) :
    Got (rCode Tryz.prog (oCall Tryz.prog [] O 9999) 9999 (goR1 Tryz.f3) e H) Q := by
  obtain ⟨o, nx, lg, w, B, a7, rfl, M, E⟩ := h
  have g0 := E.g0; have g3 := E.g3; have g5 := E.g5; have g7 := E.g7; have g8 := E.g8; have g9 := E.g9; have g10 := E.g10
  have r5 := M.r5; have lt5 := M.lt5
  show Got (rCode _ _ _ (Code.seq _ (Code.seq _ (Code.seq _ (Code.seq _ (goR2 Tryz.f3))))) _ _) _
  generalize goR2 Tryz.f3 = T at hK ⊢
  have hNp := num_pairs (n := 9998) hN
  repeat (first | with_reducible (first | refine n_on ?_ | refine n_seq ?_ | refine s_else ?_ | refine n_t ?_ | refine n_gt ?_ | refine d_t ?_ | refine n_nil ?_ | refine d_nil ?_ | refine n_block ?_ | refine n_skip ?_ | refine n_bon ?_ | refine n_bback ?_ | refine n_back ?_ | refine n_out ?_ | refine n_bout rfl ?_ | refine n_bfar rfl ?_ | refine n_ret ?_ | refine n_exit ?_ | refine n_label ?_ | refine n_scope ?_ | refine n_son ?_ | refine n_sback ?_) | (with_reducible (first | apply n_region | apply d_region); (simp only [JV, JU, JW, Nat.reduceAdd, Nat.zero_add]; exact rfl)) | (with_reducible (first | apply s_op | apply n_guard | apply n_cond | apply d_guard | apply d_op | apply n_fin | apply n_finb); (simp (maxDischargeDepth := 6) only [sy3.1, zY, qG, qP, qQ, qR, qS, qT, rowAt, ↓jg, ↓ji, Nat.reduceAdd, Nat.reduceEqDiff, ne_eq, jG, Nat.reduceLT, if_true, ite_true, Int.reduceLE, Int.reduceLT, Int.reduceEq, Int.reduceNeg, Int.reduceAdd, Nat.reduceSub, if_false, ite_false, fs_3.1, g3, g5, r5, lt5, hNp, st_buildSliceV, bs1, kind_pure, kind_load, kind_fresh, kind_other, jg, ji, undef]; first | exact rfl | exact ⟨rfl, rfl, rfl, rfl⟩); try (with_reducible refine calmK_in ?_; decide +kernel)))
  refine d_do (DoneTo _ (nx + 7) [] [(7, 11), (5, 1), (0, 0)]) 3 (by
    simp (maxDischargeDepth := 6) only [sy3.1, zY, qG, qP, qQ, qR, qS, qT, rowAt, ↓jg, ↓ji, Nat.reduceAdd, Nat.reduceEqDiff, ne_eq, jG, Nat.reduceLT, if_true, ite_true, Int.reduceLE, Int.reduceLT, Int.reduceEq, Int.reduceNeg, Int.reduceAdd, Nat.reduceSub, if_false, ite_false, fs_3.1, g3, ← M.hB]
    exact call_pairs (n := 9991) hO (M.heap.more (by omega) fun x hx => by (repeat (first | rw [qE] | rw [qF _ _ _ _ (by omega)]))) (by omega) (qE _ _ _) rfl) ?_ (by decide +kernel) ?_
  · exact done_kind rfl (Nat.le_refl _)
  rintro v1 o1 nx1 l1 ⟨q, _, _, heq, hq, hq2, hrq, hfr⟩ cl
  cases heq
  have f5 : o1.get b5 = some (.row [.int .u8 5, .int .i64 1] 29 0 true) := by rw [hfr b5 (by omega)]; (repeat (first | rw [qE] | rw [qF _ _ _ _ (by omega)])); exact r5
  have l5 : b5 < nx1 := by omega
  have hq1 : Nat.blt q nx1 = true := by rw [Nat.blt_eq]; exact hq2
  have hrq' : o1.get q = some (.row [.int .u8 7, .int .i64 11, .int .u8 5, .int .i64 1, .int .u8 0, .int .i64 0] 29 2 true) := hrq
  have hb57 : b5 ≠ nx + 5 := by omega
  have hq57 : q ≠ nx + 5 := by omega
  have d77 : decide ((7 : Int) = 7) = true := rfl
  have d33 : decide (Int.ofNat 3 = 3) = true := rfl
  repeat (first | with_reducible (first | refine n_on ?_ | refine n_seq ?_ | refine s_else ?_ | refine n_t ?_ | refine n_gt ?_ | refine d_t ?_ | refine n_nil ?_ | refine d_nil ?_ | refine n_block ?_ | refine n_skip ?_ | refine n_bon ?_ | refine n_bback ?_ | refine n_back ?_ | refine n_out ?_ | refine n_bout rfl ?_ | refine n_bfar rfl ?_ | refine n_ret ?_ | refine n_exit ?_ | refine n_label ?_ | refine n_scope ?_ | refine n_son ?_ | refine n_sback ?_) | (with_reducible (first | apply n_region | apply d_region); (simp only [JV, JU, JW, Nat.reduceAdd, Nat.zero_add]; exact rfl)) | (with_reducible (first | apply s_op | apply n_guard | apply n_cond | apply d_guard | apply d_op | apply n_fin | apply n_finb); (simp (maxDischargeDepth := 6) only [sy3.1, zY, qG, qP, qQ, qR, qS, qT, rowAt, ↓jg, ↓ji, Nat.reduceAdd, Nat.reduceEqDiff, ne_eq, jG, Nat.reduceLT, if_true, ite_true, Int.reduceLE, Int.reduceLT, Int.reduceEq, Int.reduceNeg, Int.reduceAdd, Nat.reduceSub, if_false, ite_false, fs_3.1, g3, g5, f5, l5, hrq', hq1, toldV, d33, vv_ne_same, ix30, ix31, ix32, d77, hq57, hb57, cut6a, cut6b, kind_pure, kind_load, kind_fresh, kind_other, jg, ji, undef]; first | exact rfl | exact ⟨rfl, rfl, rfl, rfl⟩); try (with_reducible refine calmK_in ?_; decide +kernel)))
  have w13 := M.w7 (x := nx1 + 30) (by omega)
  refine hK _ _ ⟨_, _, _, w, B, a7, nx + 5, q, nx1 + 30, none, rfl, ⟨?_, ?_, ?_, ?_, ?_, ?_, ?_, ⟨by omega, by omega, by omega, by omega, w13⟩, .inl ⟨rfl, rfl⟩⟩, ⟨?_, ?_, ?_, ?_⟩, ?_, ?_, ?_⟩
  · exact M.more (by omega) fun x hx => by (repeat (first | rw [qE] | rw [qF _ _ _ _ (by omega)])); rw [hfr x (by omega)]; (repeat (first | rw [qE] | rw [qF _ _ _ _ (by omega)]))
  · (repeat (first | rw [qE] | rw [qF _ _ _ _ (by omega)]))
  · (repeat (first | rw [qE] | rw [qF _ _ _ _ (by omega)])); exact hrq'
  · (repeat (first | rw [qE] | rw [qF _ _ _ _ (by omega)]))
  · omega
  · omega
  · omega
  all_goals simp only [qC, qD, qE, qF, Tr.get_nil, ne_eq, not_false_eq_true, Nat.reduceEqDiff, g3, g5, g7, g8, slA, Option.map_none, Nat.mul_zero]
end
end Go.Proofs.YtdfadipfhcikdaaGreatDoor
