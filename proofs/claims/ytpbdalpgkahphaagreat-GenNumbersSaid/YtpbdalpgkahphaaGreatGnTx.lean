/- GenNumbers: the function texts answers true. -/
import Derived.Test.YtpbdalpgkahphaaGreatGnT1
import Derived.Test.YtpbdalpgkahphaaGreatGnT2
import Derived.Test.YtpbdalpgkahphaaGreatGnT3
import Derived.Test.YtpbdalpgkahphaaGreatGnT4
import Derived.Test.YtpbdalpgkahphaaGreatGnT5
import Derived.Test.YtpbdalpgkahphaaGreatGnT6
set_option linter.unusedSimpArgs false
set_option linter.unusedVariables false
namespace Go.Proofs.YtpbdalpgkahphaaGreat
open Go.RowKit
noncomputable def kS (i : Nat) : E8 := match i with
  | 0 => tk_s0
  | 1 => tk_s1
  | 2 => tk_s2
  | 3 => tk_s3
  | 4 => tk_s4
  | 5 => tk_s5
  | 6 => tk_s6
  | 7 => tk_s7
  | 8 => tk_s8
  | 9 => tk_s9
  | 10 => tk_s10
  | 11 => tk_s11
  | 12 => tk_s12
  | 13 => tk_s13
  | 14 => tk_s14
  | 15 => tk_s15
  | 16 => tk_s16
  | 17 => tk_s17
  | _ => tk_s18
noncomputable def hS (i : Nat) : AHeap := match i with
  | 0 => th_s0
  | 1 => th_s1
  | 2 => th_s2
  | 3 => th_s3
  | 4 => th_s4
  | 5 => th_s5
  | 6 => th_s6
  | 7 => th_s7
  | 8 => th_s8
  | 9 => th_s9
  | 10 => th_s10
  | 11 => th_s11
  | 12 => th_s12
  | 13 => th_s13
  | 14 => th_s14
  | 15 => th_s15
  | 16 => th_s16
  | 17 => th_s17
  | _ => th_s18
theorem fitT : Fit Tryz.prog okG (runG noHelp) := fitG (noHelp_sound _ [])
abbrev tRun (c : Code) := RunsK Tryz.prog 59 c
theorem tc1 : chk [] 59 (ySL tL) = true := by kernel_rfl
theorem tc2 : chk [] 59 (ySL (ySR tL)) = true := by kernel_rfl
theorem tc3 : chk [] 59 (ySL tB) = true := by kernel_rfl
theorem tc4 : chk [] 59 (ySL (ySR tB)) = true := by kernel_rfl
theorem tc5 : chk [] 59 (ySR (ySR tB)) = true := by kernel_rfl
theorem tc6 : chk [] 59 (ySR (ySR (ySR tL))) = true := by kernel_rfl
theorem tc7 : chk [] 59 (ySL tC) = true := by kernel_rfl
theorem tc8 : chk [] 59 (ySL (ySR tC)) = true := by kernel_rfl
theorem tc9 : chk [] 59 (ySL (ySR (ySR tC))) = true := by kernel_rfl
theorem tc10 : chk [] 59 (ySL (ySL (ySR (ySR (ySR tC))))) = true := by kernel_rfl
theorem tc11 : chk [] 59 (ySL (ySR (ySR (ySR (ySR tC))))) = true := by kernel_rfl
theorem tc12 : chk [] 59 tL = true := by kernel_rfl
theorem t_round {k k1 k2 : E8} {H H1 H2 : AHeap} {i1 i2 : List Nat} {Q : Way → E8 → AHeap → Prop} (ha : kCut i1 (tPre k H) = .on k1 H1) (hb : kCut i2 (tPost k1 H1) = .on k2 H2) : tRun tL k H (onK Q fun k' H' => k' = k2 ∧ Less H2 H') := by
  obtain ⟨a, A, e1, ha⟩ := thn_on ha
  obtain ⟨b, B, e2, ha⟩ := thn_on ha
  obtain ⟨c, C, e3, ha⟩ := thn_on ha
  obtain ⟨d, D, e4, hb⟩ := thn_on hb
  rw [tL_is]
  refine runsK_eq fitT tc1 e1 ?_
  refine runsK_eq fitT tc2 e2 ?_
  refine runsK_seq (I := fun k' H' => k' = d ∧ H' = D) (runsK_block ?_) fun k' H' hh => ?_
  · refine runsK_eq fitT tc3 e3 ?_
    refine runsK_seg fitT tc4 ha ?_
    exact runsK_run fitT tc5 (by rw [show (readyCode Tryz.prog okG (ySR (ySR tB))).c (runG noHelp) 400 k1 H1 = KW.on d D from e4]; exact ⟨rfl, rfl⟩)
  · obtain ⟨rfl, rfl⟩ := hh
    exact runsK_last fitT tc6 hb fun H' hl => ⟨rfl, hl⟩
theorem t_all (i : Nat) (hi : i < 18) : ∃ k1 H1 i1 i2, kCut i1 (tPre (kS i) (hS i)) = .on k1 H1 ∧ kCut i2 (tPost k1 H1) = .on (kS (i + 1)) (hS (i + 1)) := by
  match i, hi with
  | 0, _ => exact ⟨_, _, _, _, tx_a0, tx_b0⟩
  | 1, _ => exact ⟨_, _, _, _, tx_a1, tx_b1⟩
  | 2, _ => exact ⟨_, _, _, _, tx_a2, tx_b2⟩
  | 3, _ => exact ⟨_, _, _, _, tx_a3, tx_b3⟩
  | 4, _ => exact ⟨_, _, _, _, tx_a4, tx_b4⟩
  | 5, _ => exact ⟨_, _, _, _, tx_a5, tx_b5⟩
  | 6, _ => exact ⟨_, _, _, _, tx_a6, tx_b6⟩
  | 7, _ => exact ⟨_, _, _, _, tx_a7, tx_b7⟩
  | 8, _ => exact ⟨_, _, _, _, tx_a8, tx_b8⟩
  | 9, _ => exact ⟨_, _, _, _, tx_a9, tx_b9⟩
  | 10, _ => exact ⟨_, _, _, _, tx_a10, tx_b10⟩
  | 11, _ => exact ⟨_, _, _, _, tx_a11, tx_b11⟩
  | 12, _ => exact ⟨_, _, _, _, tx_a12, tx_b12⟩
  | 13, _ => exact ⟨_, _, _, _, tx_a13, tx_b13⟩
  | 14, _ => exact ⟨_, _, _, _, tx_a14, tx_b14⟩
  | 15, _ => exact ⟨_, _, _, _, tx_a15, tx_b15⟩
  | 16, _ => exact ⟨_, _, _, _, tx_a16, tx_b16⟩
  | 17, _ => exact ⟨_, _, _, _, tx_a17, tx_b17⟩
  | n + 18, h => exact absurd h (by omega)
theorem t_out : isOut 0 (rdG tL (kS 18) (hS 18)) = true := by kernel_rfl
noncomputable def tEnd : KW := rdG tL (kS 18) (hS 18)
theorem t_fin : isOn (rdG (ySL (ySR (ySR (ySR (ySR tC))))) (envOf tEnd) (memOf tEnd)) = true := by kernel_rfl
theorem t_res : kRes Tryz.prog (envOf (rdG (ySL (ySR (ySR (ySR (ySR tC))))) (envOf tEnd) (memOf tEnd))) (memOf (rdG (ySL (ySR (ySR (ySR (ySR tC))))) (envOf tEnd) (memOf tEnd))) Tryz.f8.results.toList = some [.bool true] := by kernel_rfl
theorem t_loop {Q : Way → E8 → AHeap → Prop} : tRun (.block 0 (.loop tL)) (kS 0) (hS 0) (onK Q fun k H => k = envOf tEnd ∧ H = memOf tEnd) := by
  refine runsK_block (runsK_loop (fun m k H => ∃ i, i ≤ 18 ∧ m = 18 - i ∧ k = kS i ∧ Less (hS i) H) (fun m k H hI => ?_) (n := 18) ⟨0, by omega, by omega, rfl, Less.refl _⟩)
  obtain ⟨i, hi, hm, rfl, hl⟩ := hI
  refine runsK_less hl ?_
  by_cases h : i < 18
  · obtain ⟨k1, H1, i1, i2, ha, hb⟩ := t_all i h
    refine (t_round (Q := outK 0 (onK Q fun k H => k = envOf tEnd ∧ H = memOf tEnd)) ha hb).mono fun way k H hh => ?_
    cases way with
    | on => exact ⟨18 - (i + 1), by omega, i + 1, by omega, rfl, hh⟩
    | _ => exact hh
  · obtain rfl : i = 18 := by omega
    exact runsK_run fitT tc12 (KW.says_mono (out_says t_out) fun way k' H' hh => by obtain ⟨rfl, rfl, rfl⟩ := hh; exact ⟨rfl, rfl⟩)
theorem texts_runs : tRun tC kU3 emptyH (tellsK Tryz.prog Tryz.f8.results.toList) := by
  have hh := tx_h
  unfold tHead at hh
  obtain ⟨a, A, e1, hh⟩ := thn_on hh
  obtain ⟨b, B, e2, hh⟩ := thn_on hh
  obtain ⟨c, C, e3, hh⟩ := thn_on hh
  rw [tC_is]
  refine runsK_eq fitT tc7 e1 ?_
  refine runsK_eq fitT tc8 e2 ?_
  refine runsK_eq fitT tc9 e3 ?_
  refine runsK_seq (I := fun k H => k = envOf tEnd ∧ H = memOf tEnd) (runsK_seg fitT tc10 hh t_loop) fun k H hE => ?_
  obtain ⟨rfl, rfl⟩ := hE
  refine runsK_on fitT tc11 t_fin ?_
  refine runsK_run (n := 400) fitT (by rfl) ?_
  exact ⟨.inr rfl, t_res⟩
theorem texts_any (w : World) : Calls Tryz.prog 8 #[] w fun e w' => e = .returned (.bool true) ∧ Below w.heap.size w w' :=
  calls_runsK (c := tC) Tryz.func8 (by kernel_rfl) texts_runs w
end Go.Proofs.YtpbdalpgkahphaaGreat
