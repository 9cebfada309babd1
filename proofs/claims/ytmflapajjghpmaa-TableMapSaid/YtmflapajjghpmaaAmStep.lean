/- Running the abstract machine one operation at a time. No program in sight. -/
import Derived.Test.YtmflapajjghpmaaAmHelp
import Derived.Test.YtmflapajjghpmaaAmRow
namespace Go.Proofs.Ytmflapajjghpmaa
open Go.RowKit
set_option linter.unusedSimpArgs false
set_option linter.unusedVariables false

theorem c_true {α : Sort _} (a b : α) : cond true a b = a := rfl
theorem c_false {α : Sort _} (a b : α) : cond false a b = b := rfl
theorem of_got {r : Option (Value × AHeap)} {v : Value × AHeap} (h : Got r fun x => x = v) : r = some v := by
  obtain ⟨a, h1, rfl⟩ := h; exact h1
theorem okTrue_of {r : Option (Value × AHeap)} (h : Got r fun x => x.1 = .bool true) : okTrue r = true := by
  obtain ⟨⟨v, H⟩, rfl, e⟩ := h
  have e : v = .bool true := e
  subst e; rfl
theorem wf_i64 {a : Int} (h : (Lit.int .i64 a).wf = true) : -9223372036854775808 ≤ a ∧ a ≤ 9223372036854775807 := by
  simp [Lit.wf, IntKind.min, IntKind.max, IntKind.bits, IntKind.signed] at h; omega
theorem wf_u8 {a : Int} (h : (Lit.int .u8 a).wf = true) : 0 ≤ a ∧ a ≤ 255 := by
  simp [Lit.wf, IntKind.min, IntKind.max, IntKind.bits, IntKind.signed] at h; omega
theorem leave_fst (H H' : AHeap) (v : Value) : (leave H v H').1 = v := by
  unfold leave
  generalize (H'.log.all (fun i => Nat.ble H.next i) && lowV H.next v) = b
  cases b <;> rfl
theorem y_cut {P : Program} {call : CallFn} {fuel : Nat} {a b : Code} {env : Tr Value} {H : AHeap} {Q : St → Prop} (I : Tr Value → AHeap → Prop) (h1 : Got (rCode P call fuel a env H) fun s => ∃ e h, s = (Way.on, e, h) ∧ I e h) (h2 : ∀ e h, I e h → Got (rCode P call fuel b e h) Q) : Got (rCode P call fuel (.seq a b) env H) Q := by
  rw [y_seq]
  refine h1.mono ?_
  rintro s ⟨e, h, rfl, hi⟩
  exact h2 e h hi
section
variable {P : Program} {call : CallFn} {all os : List Oper} {base k : Nat} {env : Tr Value} {H H' : AHeap} {Q : Tr Value × AHeap → Prop} {d : Option Tmp} {op : Op} {ty : TypeId} {ps : String} {af : Array Edge} {v : Value}
theorem s_op (h : Got (aStep P call (aEval env) ⟨d, op, ty, ps, af, none⟩ (base + k) H) fun r => r = (v, H')) (h2 : Got (rOps P call all base os (k + 1) (putE env d v) H') Q) : Got (rOps P call all base (⟨d, op, ty, ps, af, none⟩ :: os) k env H) Q := by
  rw [y_op]; exact h.mono fun a e => by rw [e]; exact h2
theorem s_on {j : Nat} {w : Bool} (hw : wantedA ⟨d, op, ty, ps, af, some (j, w)⟩ all env = true) (h : Got (aStep P call (aEval env) ⟨d, op, ty, ps, af, none⟩ (base + k) H) fun r => r = (v, H')) (h2 : Got (rOps P call all base os (k + 1) (putE env d v) H') Q) : Got (rOps P call all base (⟨d, op, ty, ps, af, some (j, w)⟩ :: os) k env H) Q := by
  rw [y_guard, hw]; exact h.mono fun a e => by rw [e]; exact h2
theorem s_nil (h : Q (env, H)) : Got (rOps P call all base [] k env H) Q := by rw [y_nil]; exact h
theorem s_region {fuel id : Nat} {ops : Array Oper} {o : Tr AObj} {nx m : Nat} {lg : List Nat} {R : St → Prop} (hm : ops.toList.length = m) (h : Got (rOps P call ops.toList nx ops.toList 0 env ⟨o, nx + m, lg⟩) fun r => R (.on, r.1, r.2)) : Got (rCode P call fuel (.region id ops false) env ⟨o, nx, lg⟩) R := by
  subst hm; rw [y_region]; exact h
end
theorem s_off {P : Program} {call : CallFn} {all os : List Oper} {base k : Nat} {env : Tr Value} {H : AHeap} {Q : Tr Value × AHeap → Prop} {d : Option Tmp} {op : Op} {ty : TypeId} {ps : String} {af : Array Edge} {j : Nat} {w : Bool}
    (hw : wantedA ⟨d, op, ty, ps, af, some (j, w)⟩ all env = false) (h2 : Got (rOps P call all base os (k + 1) (putE env d undef) H) Q) : Got (rOps P call all base (⟨d, op, ty, ps, af, some (j, w)⟩ :: os) k env H) Q := by
  rw [y_guard, hw]; exact h2
section
variable {P : Program} {call : CallFn} {all os : List Oper} {base k : Nat} {env : Tr Value} {H H' : AHeap} {Q : Tr Value × AHeap → Prop} {d : Option Tmp} {op : Op} {ty : TypeId} {ps : String} {af : Array Edge} {v : Value} {j : Nat} {w b : Bool}
theorem s_guard (hw : wantedA ⟨d, op, ty, ps, af, some (j, w)⟩ all env = b) (h : cond b (Got (aStep P call (aEval env) ⟨d, op, ty, ps, af, none⟩ (base + k) H) fun r => Got (rOps P call all base os (k + 1) (putE env d r.1) r.2) Q) (Got (rOps P call all base os (k + 1) (putE env d undef) H) Q)) :
    Got (rOps P call all base (⟨d, op, ty, ps, af, some (j, w)⟩ :: os) k env H) Q := by
  rw [y_guard, hw]; exact h
theorem s_then {Y : Prop} (h : Got (aStep P call (aEval env) ⟨d, op, ty, ps, af, none⟩ (base + k) H) fun r => r = (v, H')) (h2 : Got (rOps P call all base os (k + 1) (putE env d v) H') Q) :
    cond true (Got (aStep P call (aEval env) ⟨d, op, ty, ps, af, none⟩ (base + k) H) fun r => Got (rOps P call all base os (k + 1) (putE env d r.1) r.2) Q) Y := by
  exact h.mono fun a e => by rw [e]; exact h2
theorem s_else {X Y : Prop} (h : Y) : cond false X Y := h
end
/-- an operation of which only something is known -/
theorem s_do {P : Program} {call : CallFn} {all os : List Oper} {base k : Nat} {env : Tr Value} {H : AHeap} {Q : Tr Value × AHeap → Prop} {d : Option Tmp} {op : Op} {ty : TypeId} {ps : String} {af : Array Edge} (R : Value × AHeap → Prop)
    (h : Got (aStep P call (aEval env) ⟨d, op, ty, ps, af, none⟩ (base + k) H) R) (h2 : ∀ v H', R (v, H') → Got (rOps P call all base os (k + 1) (putE env d v) H') Q) : Got (rOps P call all base (⟨d, op, ty, ps, af, none⟩ :: os) k env H) Q := by
  rw [y_op]; exact h.mono fun a e => h2 a.1 a.2 e
end Go.Proofs.Ytmflapajjghpmaa
