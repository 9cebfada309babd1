/- Heap: objects put anew (plain); Has. -/
import Derived.Test.YtdfadipfhcikdaaGreatDoorHmCel0
import Derived.Test.YtdfadipfhcikdaaGreatDoorHmGood0
namespace Go.Proofs.YtdfadipfhcikdaaGreatDoor
open Go.RowKit
set_option linter.unusedSimpArgs false
set_option linter.unusedVariables false
set_option maxRecDepth 100000

def setOb (l : List (Int × Ob)) (d : Int) (ob : Ob) : List (Int × Ob) := l.map fun q => if q.1 = d then (q.1, ob) else q
def storeO (hs : HS) (c v : VV) : HS × Int := match ofO hs c 9 with
  | none => (hs, 151)
  | some ob => if keepO hs v = true then ({ hs with objs := setOb hs.objs c.2 { ob with has := v }, noted := noteL hs c.2 }, 0) else (hs, 150)
theorem setOb_kv (B : HB) (l : List (Int × Ob)) (d : Int) (ob : Ob) : objKV B (setOb l d ob) = objKV B l := by
  unfold objKV setOb
  rw [List.map_map]
  refine List.map_congr_left fun q _ => ?_
  show ((if q.1 = d then (q.1, ob) else q).1, Value.pointer (some ⟨B.bl (if q.1 = d then (q.1, ob) else q).1, 0, none⟩)) = _
  by_cases e : q.1 = d
  · rw [if_pos e]
  · rw [if_neg e]
section
variable {O : Helps} {n : Nat} {o : Tr AObj} {nx : Nat} {lg : List Nat} {w : Nat → Nat} {B : HB} {hs : HS}
set_option maxHeartbeats 8000000 in
theorem has_ok (hO : Clear O) (h : HeapIn o nx w B hs) (v : VV) : oCall Tryz.prog [] O (n + 3) 50 [.pointer (some ⟨B.i, 0, none⟩), .agg #[.int .u8 v.1, .int .i64 v.2]] ⟨o, nx, lg⟩ = some (.bool (findO hs v).isSome, ⟨o, nx, lg⟩) := by
  refine of_got ?_
  have hf := fun (X : AObj) (q : Nat) (lg : List Nat) => find_ok (n := n) (lg := lg) hO (more1 h (some X) q) v
  have hfn := found_neq B hs v
  generalize hfv : foundV B hs v = fv at hf hfn
  rw [y_fn (rs := [.tmp 4]) (hO _ (by decide)) Tryz.func50 rfl (by kernel_rfl) rfl rfl]
  repeat (first | with_reducible (first | refine n_on ?_ | refine n_seq ?_ | refine s_else ?_ | refine n_t ?_ | refine n_gt ?_ | refine d_t ?_ | refine n_nil ?_ | refine d_nil ?_ | refine n_block ?_ | refine n_skip ?_ | refine n_bon ?_ | refine n_bback ?_ | refine n_back ?_ | refine n_out ?_ | refine n_bout rfl ?_ | refine n_bfar rfl ?_ | refine n_ret ?_ | refine n_exit ?_ | refine n_label ?_ | refine n_scope ?_ | refine n_son ?_ | refine n_sback ?_) | (with_reducible (first | apply n_region | apply d_region); (simp only [JV, JU, JW, Nat.reduceAdd, Nat.zero_add]; exact rfl)) | (with_reducible (first | apply s_op | apply n_guard | apply n_cond | apply d_guard | apply d_op | apply n_fin | apply n_finb); (simp (maxDischargeDepth := 6) only [sy3.1, zY, qG, qP, qQ, qR, qS, qT, rowAt, ↓jg, ↓ji, Nat.reduceAdd, Nat.reduceEqDiff, ne_eq, jG, Nat.reduceLT, if_true, ite_true, Int.reduceLE, Int.reduceLT, Int.reduceEq, Int.reduceNeg, Int.reduceAdd, Nat.reduceSub, if_false, ite_false, fs_50.1, hf, hfn, kind_pure, kind_load, kind_fresh, kind_other, jg, ji, undef]; first | exact rfl | exact ⟨rfl, rfl, rfl, rfl⟩); try (with_reducible refine calmK_in ?_; decide +kernel)))
  try exact Ja (by rfl) (by rfl)
end
end Go.Proofs.YtdfadipfhcikdaaGreatDoor
