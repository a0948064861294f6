/- TelemetryThinnedIsNear returns true for every input: Thinned equals the reference's, and a reader of what is left is never wrong by more than the width; no condition. -/
import Derived.Below
import Derived.Carry
import Derived.ChangeArms
import Derived.ChangeOld
import Derived.ChangeSlices
import Derived.DataElems
import Derived.DataReads
import Derived.OpenShut
import Derived.ProofKit
import Derived.ShutString
import Derived.SizedLaws
import Derived.Test.YtbkmohnmciojpaaRows
import Derived.Test.YtbkmohnmciojpaaWMore
import Derived.WalkKit
import Derived.Test.YtbkmohnmciojpaaCTelemetryThinnedIsNear1
-- YtbkmohnmciojpaaF8
namespace Go.Proofs.Ytbkmohnmciojpaa.P
open Go.RowKit Go.Proofs.YtbkmohnmciojpaaW.PrintWords Go.Proofs.YtbkmohnmciojpaaW.PrintLast Go.Proofs.YtbkmohnmciojpaaW.PrintMore
attribute [local go_sem] max2_int min2_int max_two min_two max_three min_three max_four min_four   -- for this text's walks alone
set_option linter.unusedVariables false
set_option linter.unusedSimpArgs false

/-! ### telemetry_squeezed: function 18 -/
mutual
def telemetry_squeezed.l0 : Nat → List Int → List Int → Int → Int → Option (List Int)
  | 0, _, _, _, _ => none
  | k + 1, x0, x3, x4, x5 => if x5 < (x0.length : Int) then (telemetry_squeezed.l1 k x0 x3 x4 x5 0) else (some x3)
def telemetry_squeezed.j2 : Nat → List Int → List Int → Int → Int → Int → Option (List Int)
  | 0, _, _, _, _, _ => none
  | k + 1, x0, x3, x4, x5, x6 => if x6 ≥ 3 then ((some (([128, 0] : List Int) : List Int)).bind fun y148 => (if x3.length + y148.length < 140737488355328 then ((telemetry_groups.f k (x3 ++ y148) x6).bind fun t154 => (telemetry_squeezed.l0 k x0 t154 x4 (wrap64 (x5 + x6)))) else (none))) else (if x6 > 0 then (telemetry_squeezed.l2 k x0 x3 x4 x5 x6 x6 0) else (if 0 ≤ x5 then (if x5 < (x0.length : Int) then (if (wrap64 (2 * (wrap64 ((rd x0 x5) - x4)))) < 0 then ((telemetry_groups.f k x3 (wrap64 ((wrap64 (-(wrap64 (2 * (wrap64 ((rd x0 x5) - x4)))))) - 1))).bind fun t161 => (telemetry_squeezed.l0 k x0 t161 (rd x0 x5) (wrap64 (x5 + 1)))) else ((telemetry_groups.f k x3 (wrap64 (2 * (wrap64 ((rd x0 x5) - x4))))).bind fun t165 => (telemetry_squeezed.l0 k x0 t165 (rd x0 x5) (wrap64 (x5 + 1))))) else (none)) else (none)))
def telemetry_squeezed.l2 : Nat → List Int → List Int → Int → Int → Int → Int → Int → Option (List Int)
  | 0, _, _, _, _, _, _, _ => none
  | k + 1, x0, x3, x4, x5, x6, x73, x74 => if x74 < x73 then (if x3.length < 140737488355328 then (telemetry_squeezed.l2 k x0 (x3 ++ [0]) x4 x5 x6 x73 (wrap64 (x74 + 1))) else (none)) else (telemetry_squeezed.l0 k x0 x3 x4 (wrap64 (x5 + x6)))
def telemetry_squeezed.l1 : Nat → List Int → List Int → Int → Int → Int → Option (List Int)
  | 0, _, _, _, _, _ => none
  | k + 1, x0, x3, x4, x5, x6 => if (wrap64 (x5 + x6)) < (x0.length : Int) then (if 0 ≤ (wrap64 (x5 + x6)) then (if (rd x0 (wrap64 (x5 + x6))) = x4 then (telemetry_squeezed.l1 k x0 x3 x4 x5 (wrap64 (x6 + 1))) else (telemetry_squeezed.j2 k x0 x3 x4 x5 x6)) else (none)) else (telemetry_squeezed.j2 k x0 x3 x4 x5 x6)
end
def telemetry_squeezed.f (k : Nat) (l0 : List Int) : Option (List Int) := telemetry_squeezed.l0 k l0 (([(wrap64 ((l0.length : Int) / 256)) % 256, ((l0.length : Int)) % 256] : List Int)) 0 0
theorem telemetry_squeezed.mono_l : ∀ k, (∀ y0 y1 y2 y3, LeO (telemetry_squeezed.l0 k y0 y1 y2 y3) (telemetry_squeezed.l0 (k + 1) y0 y1 y2 y3)) ∧ (∀ y0 y1 y2 y3 y4, LeO (telemetry_squeezed.j2 k y0 y1 y2 y3 y4) (telemetry_squeezed.j2 (k + 1) y0 y1 y2 y3 y4)) ∧ (∀ y0 y1 y2 y3 y4 y5 y6, LeO (telemetry_squeezed.l2 k y0 y1 y2 y3 y4 y5 y6) (telemetry_squeezed.l2 (k + 1) y0 y1 y2 y3 y4 y5 y6)) ∧ (∀ y0 y1 y2 y3 y4, LeO (telemetry_squeezed.l1 k y0 y1 y2 y3 y4) (telemetry_squeezed.l1 (k + 1) y0 y1 y2 y3 y4))
  | 0 => ⟨fun _ _ _ _ r h => by simp [telemetry_squeezed.l0] at h, fun _ _ _ _ _ r h => by simp [telemetry_squeezed.j2] at h, fun _ _ _ _ _ _ _ r h => by simp [telemetry_squeezed.l2] at h, fun _ _ _ _ _ r h => by simp [telemetry_squeezed.l1] at h⟩
  | k + 1 => by
    obtain ⟨ih0, ih1, ih2, ih3⟩ := telemetry_squeezed.mono_l k
    refine ⟨?_, ?_, ?_, ?_⟩
    · intro y0 y1 y2 y3
      unfold telemetry_squeezed.l0
      repeat' first
      | (with_reducible exact ih0 _ _ _ _)
      | (with_reducible exact ih1 _ _ _ _ _)
      | (with_reducible exact ih2 _ _ _ _ _ _ _)
      | (with_reducible exact ih3 _ _ _ _ _)
      | (with_reducible exact telemetry_groups.mono _ _ _)
      | (with_reducible exact LeO.refl _)
      | (with_reducible exact LeO.none _)
      | (with_reducible refine LeO.ite ?_ ?_)
      | (with_reducible refine LeO.bind ?_ (fun _ => ?_))
      | exact ih0 _ _ _ _
      | exact ih1 _ _ _ _ _
      | exact ih2 _ _ _ _ _ _ _
      | exact ih3 _ _ _ _ _
      | exact telemetry_groups.mono _ _ _
      | exact LeO.none _
      | refine LeO.ite ?_ ?_
      | refine LeO.bind ?_ (fun _ => ?_)
    · intro y0 y1 y2 y3 y4
      unfold telemetry_squeezed.j2
      repeat' first
      | (with_reducible exact ih0 _ _ _ _)
      | (with_reducible exact ih1 _ _ _ _ _)
      | (with_reducible exact ih2 _ _ _ _ _ _ _)
      | (with_reducible exact ih3 _ _ _ _ _)
      | (with_reducible exact telemetry_groups.mono _ _ _)
      | (with_reducible exact LeO.refl _)
      | (with_reducible exact LeO.none _)
      | (with_reducible refine LeO.ite ?_ ?_)
      | (with_reducible refine LeO.bind ?_ (fun _ => ?_))
      | exact ih0 _ _ _ _
      | exact ih1 _ _ _ _ _
      | exact ih2 _ _ _ _ _ _ _
      | exact ih3 _ _ _ _ _
      | exact telemetry_groups.mono _ _ _
      | exact LeO.none _
      | refine LeO.ite ?_ ?_
      | refine LeO.bind ?_ (fun _ => ?_)
    · intro y0 y1 y2 y3 y4 y5 y6
      unfold telemetry_squeezed.l2
      repeat' first
      | (with_reducible exact ih0 _ _ _ _)
      | (with_reducible exact ih1 _ _ _ _ _)
      | (with_reducible exact ih2 _ _ _ _ _ _ _)
      | (with_reducible exact ih3 _ _ _ _ _)
      | (with_reducible exact telemetry_groups.mono _ _ _)
      | (with_reducible exact LeO.refl _)
      | (with_reducible exact LeO.none _)
      | (with_reducible refine LeO.ite ?_ ?_)
      | (with_reducible refine LeO.bind ?_ (fun _ => ?_))
      | exact ih0 _ _ _ _
      | exact ih1 _ _ _ _ _
      | exact ih2 _ _ _ _ _ _ _
      | exact ih3 _ _ _ _ _
      | exact telemetry_groups.mono _ _ _
      | exact LeO.none _
      | refine LeO.ite ?_ ?_
      | refine LeO.bind ?_ (fun _ => ?_)
    · intro y0 y1 y2 y3 y4
      unfold telemetry_squeezed.l1
      repeat' first
      | (with_reducible exact ih0 _ _ _ _)
      | (with_reducible exact ih1 _ _ _ _ _)
      | (with_reducible exact ih2 _ _ _ _ _ _ _)
      | (with_reducible exact ih3 _ _ _ _ _)
      | (with_reducible exact telemetry_groups.mono _ _ _)
      | (with_reducible exact LeO.refl _)
      | (with_reducible exact LeO.none _)
      | (with_reducible refine LeO.ite ?_ ?_)
      | (with_reducible refine LeO.bind ?_ (fun _ => ?_))
      | exact ih0 _ _ _ _
      | exact ih1 _ _ _ _ _
      | exact ih2 _ _ _ _ _ _ _
      | exact ih3 _ _ _ _ _
      | exact telemetry_groups.mono _ _ _
      | exact LeO.none _
      | refine LeO.ite ?_ ?_
      | refine LeO.bind ?_ (fun _ => ?_)
theorem telemetry_squeezed.mono : ∀ a0 k, LeO (telemetry_squeezed.f k a0) (telemetry_squeezed.f (k + 1) a0) := by
  intro a0 k
  obtain ⟨ih0, ih1, ih2, ih3⟩ := telemetry_squeezed.mono_l k
  unfold telemetry_squeezed.f
  repeat' first
      | (with_reducible exact ih0 _ _ _ _)
      | (with_reducible exact ih1 _ _ _ _ _)
      | (with_reducible exact ih2 _ _ _ _ _ _ _)
      | (with_reducible exact ih3 _ _ _ _ _)
      | (with_reducible exact telemetry_groups.mono _ _ _)
      | (with_reducible exact LeO.refl _)
      | (with_reducible exact LeO.none _)
      | (with_reducible refine LeO.ite ?_ ?_)
      | (with_reducible refine LeO.bind ?_ (fun _ => ?_))
      | exact ih0 _ _ _ _
      | exact ih1 _ _ _ _ _
      | exact ih2 _ _ _ _ _ _ _
      | exact ih3 _ _ _ _ _
      | exact telemetry_groups.mono _ _ _
      | exact LeO.none _
      | refine LeO.ite ?_ ?_
      | refine LeO.bind ?_ (fun _ => ?_)
set_option maxHeartbeats 8000000 in
set_option maxRecDepth 100000 in
theorem telemetry_squeezed.calls (k : Nat) (A0 : Option Addr) (c0 : Nat) (l0 : List Int) (r : List Int) (w : World) (hr0 : Kd.C (Kd.int .i64) w A0 l0.length l0) (hc0 : l0.length ≤ c0) (h : telemetry_squeezed.f k l0 = some r) :
    Calls Try.prog 18 #[.slice A0 l0.length c0] w fun e w' => ∃ v0_ : Value, e = .returned (v0_) ∧ Kd.R (Kd.int .u8) 5 w' w.heap.size (fun _ => True) v0_ r ∧ Below w.heap.size w w' := by
  have HR0 := Aside0.mk hr0
  have HC0 := Aside0.mk hc0
  clear hr0 hc0
  have HB := Aside0.mk (Below.refl w.heap.size w)
  have H : (telemetry_squeezed.l0 k l0 (([(wrap64 ((l0.length : Int) / 256)) % 256, ((l0.length : Int)) % 256] : List Int)) 0 0) = some r := h
  clear h
  obtain ⟨y144, hy144⟩ : ∃ y_ : List Int, y_ = (([(wrap64 ((l0.length : Int) / 256)) % 256, ((l0.length : Int)) % 256] : List Int)) := ⟨_, rfl⟩
  replace H : (telemetry_squeezed.l0 k l0 y144 0 0) = some r := by first | (rw [hy144]; with_reducible exact H) | (have H2_ := (Option.bind_some _ _).symm.trans H; rw [hy144]; with_reducible exact H2_) | (have H2_ := (Option.bind_some _ _).symm.trans H; with_reducible exact H2_) | with_reducible exact H | (rw [hy144]; exact H) | exact H
  have Ny144 := Aside0.mk hy144
  clear hy144
  have H' := Aside0.mk H
  clear H
  go_enter Try.func18, Try.ntmps18
  go_wp2_with (first | ((with_reducible refine gate_dst (N := 15) rfl ?_); refine Kd.R_lit (Kd.int .u8) _ 5 ?hg (N := 15) ?hd (xs := ([(wrap64 ((l0.length : Int) / 256)) % 256, ((l0.length : Int)) % 256] : List Int)) (inner := [.int .u8 ((wrap64 ((l0.length : Int) / 256)) % 256), .int .u8 (((l0.length : Int)) % 256)]) (ok := fun _ => True) (okp := fun _ => True) ?hr ?hp (fun _ hk => hk) trivial (Below.refl _ _) (Nat.le_refl _) (by simp) ?_; (case hd => rfl); (case hg => rfl); (case hr => first | (go_simp; done) | (go_simp; rfl)); (case hp => exact (Reps.one (show Kd.M (Kd.int .u8) _ _ _ ((wrap64 ((l0.length : Int) / 256)) % 256) [.int .u8 ((wrap64 ((l0.length : Int) / 256)) % 256)] from rfl) (Reps.one (show Kd.M (Kd.int .u8) _ _ _ (((l0.length : Int)) % 256) [.int .u8 (((l0.length : Int)) % 256)] from rfl) (Reps.none _ _)))); intro v145 w2 ho3 hb hg_ hnew_; clear hg_ hnew_; (first | rw [← Ny144.out] at ho3 | (simp only [Int.reduceToNat] at ho3; rw [← Ny144.out] at ho3)); have n0_ := Aside0.mk (Kd.R_lower ho3 (below_size (by repeat (first | (with_reducible first | exact HB.out | apply below_alloc | apply pw_below_drewN | apply below_drew1) | exact HB.out)))); have n1_ := Aside0.mk (below_step (by repeat (first | (with_reducible first | exact HB.out | apply below_alloc | apply pw_below_drewN | apply below_drew1) | exact HB.out)) hb); clear HB; have HO146 := n0_; have HB := n1_; clear n0_ n1_; clear hb ho3))
  go_loopg [3, 4, 5] k (fun kq v3 v4 v5 w' => ∃ (x3_1 : List Int) (x4_1 : Int) (x5_1 : Int), v4 = .int .i64 x4_1 ∧ v5 = .int .i64 x5_1 ∧ Aside0 (telemetry_squeezed.l0 kq l0 x3_1 x4_1 x5_1 = some r) ∧ Aside0 (kq ≤ k) ∧ Aside0 (Kd.R (Kd.int .u8) 5 w' w.heap.size (fun _ => True) v3 x3_1) ∧ Aside0 (Below w.heap.size w w'))
  case atStart => exact ⟨(y144), (0), (0), (by first | rfl | (simp; done) | (simp [*]; done)), (by first | rfl | (simp; done) | (simp [*]; done)), H', ⟨Nat.le_refl _⟩, ⟨by (with_reducible repeat (first | apply Kd.R_alloc | apply Kd.R_drewN | apply Kd.R_drew)); exact HO146.out⟩, ⟨by repeat (first | (with_reducible first | exact HB.out | apply below_alloc | apply pw_below_drewN | apply below_drew1) | exact HB.out)⟩⟩
  case round =>
    clear H'
    try clear c1
    try clear p2
    obtain ⟨x3_1, x4_1, x5_1, rfl, rfl, HA, HK1, HO_3, HB⟩ := hrel
    cases gk with
    | zero => exact absurd HA.out (by simp [telemetry_squeezed.l0])
    | succ k1 =>
      have H := HA.out
      clear HA
      simp only [telemetry_squeezed.l0] at H
      by_cases c4 : x5_1 < (l0.length : Int)
      · rw [if_pos c4] at H
        have c4b0 : decide (x5_1 < (l0.length : Int)) = true := decide_eq_true c4
        clear c4
        have HC5 := Aside0.mk H
        clear H
        go_upto_block 2 with (fail)
        go_cut [6] (fun v6 wc => ∃ (kq : Nat) (x6_4 : Int), v6 = .int .i64 x6_4 ∧ Aside0 (telemetry_squeezed.j2 kq l0 x3_1 x4_1 x5_1 x6_4 = some r) ∧ Aside0 (kq ≤ k1) ∧ Aside0 (Kd.R (Kd.int .u8) 5 wc w.heap.size (fun _ => True) u3 x3_1) ∧ Aside0 (Below w.heap.size w wc))
        case first =>
          have H := HC5.out
          clear HC5
          have H' := Aside0.mk H
          clear H
          go_wp2
          go_loopg [6] k1 (fun kq v6 w' => ∃ (x6_2 : Int), v6 = .int .i64 x6_2 ∧ Aside0 (telemetry_squeezed.l1 kq l0 x3_1 x4_1 x5_1 x6_2 = some r) ∧ Aside0 (kq ≤ k1) ∧ Aside0 (Kd.R (Kd.int .u8) 5 w' w.heap.size (fun _ => True) u3 x3_1) ∧ Aside0 (Below w.heap.size w w'))
          case atStart => exact ⟨(0), (by first | rfl | (simp; done) | (simp [*]; done)), H', ⟨Nat.le_refl _⟩, ⟨by (with_reducible repeat (first | apply Kd.R_alloc | apply Kd.R_drewN | apply Kd.R_drew)); exact HO_3.out⟩, ⟨by repeat (first | (with_reducible first | exact HB.out | apply below_alloc | apply pw_below_drewN | apply below_drew1) | exact HB.out)⟩⟩
          case round =>
            clear H'
            try clear c1
            try clear p2
            try clear c4
            try clear c4b0
            try clear p2
            obtain ⟨x6_2, rfl, HA, HK2, HO_3, HB⟩ := hrel
            cases gk with
            | zero => exact absurd HA.out (by simp [telemetry_squeezed.l1])
            | succ k2 =>
              have H := HA.out
              clear HA
              simp only [telemetry_squeezed.l1] at H
              by_cases c6 : (wrap64 (x5_1 + x6_2)) < (l0.length : Int)
              · rw [if_pos c6] at H
                have c6b0 : decide ((wrap64 (x5_1 + x6_2)) < (l0.length : Int)) = true := decide_eq_true c6
                clear c6
                (first | rw [c6b0] | (simp only [i64_w, i32_w]; rw [c6b0]) | skip)
                obtain ⟨ji7, hji7⟩ : ∃ j_ : Int, (wrap64 (x5_1 + x6_2)) = j_ := ⟨_, rfl⟩
                replace H : (if 0 ≤ (ji7) then (if (rd l0 (ji7)) = x4_1 then (telemetry_squeezed.l1 k2 l0 x3_1 x4_1 x5_1 (wrap64 (x6_2 + 1))) else (telemetry_squeezed.j2 k2 l0 x3_1 x4_1 x5_1 x6_2)) else (none)) = some r := by first | (rw [hji7] at H; exact H) | (simp only [hji7] at H ⊢; exact H)
                (try rw [hji7] at c6b0)
                have hji7w : (IntKind.i64.wrap (x5_1 + x6_2)) = ji7 := (i64_w _).trans hji7
                by_cases c8 : 0 ≤ (ji7)
                · rw [if_pos c8] at H
                  have c8b0 : decide (0 ≤ (ji7)) = true := decide_eq_true c8
                  clear c8
                  by_cases c9 : (rd l0 (ji7)) = x4_1
                  · rw [if_pos c9] at H
                    have c9b0 : ((rd l0 (ji7)) == x4_1) = true := beq_iff_eq.mpr c9
                    have c9b1 : ((rd l0 (ji7)) != x4_1) = false := bne_eq_false_iff_eq.mpr c9
                    clear c9
                    have H' := Aside0.mk H
                    clear H
                    have p147 : 0 ≤ ((ji7) : Int) := of_decide_eq_true (by first | (with_reducible assumption) | assumption)
                    have q147 : (ji7) < (l0.length : Int) := of_decide_eq_true (by first | (with_reducible assumption) | assumption)
                    obtain ⟨ad147, e147, hx147_0⟩ := Kd.at_int HR0.out (ji7) p147 q147
                    cases e147
                    replace hx147_0 := (HB.out.cell (World.block_lt_of_cell? w _ hx147_0)).trans hx147_0
                    replace p147 := eq_true p147
                    replace q147 := eq_true q147
                    go_wp2
                    go_roundg k2
                    case measure => have := HK1.out; have := HK2.out; omega
                    case rel => exact ⟨(wrap64 (x6_2 + 1)), (by first | rfl | (simp; done) | (simp [*]; done)), H', ⟨by have := HK1.out; have := HK2.out; omega⟩, ⟨by (with_reducible repeat (first | apply Kd.R_alloc | apply Kd.R_drewN | apply Kd.R_drew)); exact HO_3.out⟩, ⟨by repeat (first | (with_reducible first | exact HB.out | apply below_alloc | apply pw_below_drewN | apply below_drew1) | exact HB.out)⟩⟩
                  · rw [if_neg c9] at H
                    have c9b0 : ((rd l0 (ji7)) == x4_1) = false := beq_eq_false_iff_ne.mpr c9
                    have c9b1 : ((rd l0 (ji7)) != x4_1) = true := bne_iff_ne.mpr c9
                    have H' := Aside0.mk H
                    clear H
                    have p147 : 0 ≤ ((ji7) : Int) := of_decide_eq_true (by first | (with_reducible assumption) | assumption)
                    have q147 : (ji7) < (l0.length : Int) := of_decide_eq_true (by first | (with_reducible assumption) | assumption)
                    obtain ⟨ad147, e147, hx147_0⟩ := Kd.at_int HR0.out (ji7) p147 q147
                    cases e147
                    replace hx147_0 := (HB.out.cell (World.block_lt_of_cell? w _ hx147_0)).trans hx147_0
                    replace p147 := eq_true p147
                    replace q147 := eq_true q147
                    go_wp2
                    go_meet
                    case rel => exact ⟨_, (x6_2), (by first | rfl | (simp; done) | (simp [*]; done)), H', ⟨by have := HK1.out; have := HK2.out; first | omega | exact Nat.le_refl _⟩, ⟨by (with_reducible repeat (first | apply Kd.R_alloc | apply Kd.R_drewN | apply Kd.R_drew)); exact HO_3.out⟩, ⟨by repeat (first | (with_reducible first | exact HB.out | apply below_alloc | apply pw_below_drewN | apply below_drew1) | exact HB.out)⟩⟩
                · rw [if_neg c8] at H
                  exact absurd H (by simp)
              · rw [if_neg c6] at H
                have c6b0 : decide ((wrap64 (x5_1 + x6_2)) < (l0.length : Int)) = false := decide_eq_false c6
                clear c6
                (first | rw [c6b0] | (simp only [i64_w, i32_w]; rw [c6b0]) | skip)
                have H' := Aside0.mk H
                clear H
                go_wp2
                go_meet
                case rel => exact ⟨_, (x6_2), (by first | rfl | (simp; done) | (simp [*]; done)), H', ⟨by have := HK1.out; have := HK2.out; first | omega | exact Nat.le_refl _⟩, ⟨by (with_reducible repeat (first | apply Kd.R_alloc | apply Kd.R_drewN | apply Kd.R_drew)); exact HO_3.out⟩, ⟨by repeat (first | (with_reducible first | exact HB.out | apply below_alloc | apply pw_below_drewN | apply below_drew1) | exact HB.out)⟩⟩
        case rest =>
          clear HC5
          try clear c1
          try clear p1
          try clear q1
          try clear hx1
          try clear p2
          try clear c4
          try clear c4b0
          try clear c6
          try clear c6b0
          try clear p6
          try clear c8
          try clear c8b0
          try clear c9
          try clear c9b0
          try clear c9b1
          try clear hx147_0
          try clear p147
          try clear p2
          try clear q147
          obtain ⟨kq, x6_4, rfl, HA, HJ4, HO_3, HB⟩ := hcut
          cases kq with
          | zero => exact absurd HA.out (by simp [telemetry_squeezed.j2])
          | succ kj4 =>
            have H := HA.out
            clear HA
            simp only [telemetry_squeezed.j2] at H
            by_cases c10 : x6_4 ≥ 3
            · rw [if_pos c10] at H
              have c10b0 : decide (3 ≤ x6_4) = true := decide_eq_true c10
              clear c10
              obtain ⟨y148, hy148⟩ : ∃ y_ : List Int, y_ = (([128, 0] : List Int)) := ⟨_, rfl⟩
              replace H : (if x3_1.length + y148.length < 140737488355328 then ((telemetry_groups.f kj4 (x3_1 ++ y148) x6_4).bind fun t154 => (telemetry_squeezed.l0 kj4 l0 t154 x4_1 (wrap64 (x5_1 + x6_4)))) else (none)) = some r := by first | (rw [hy148]; with_reducible exact H) | (have H2_ := (Option.bind_some _ _).symm.trans H; rw [hy148]; with_reducible exact H2_) | (have H2_ := (Option.bind_some _ _).symm.trans H; with_reducible exact H2_) | with_reducible exact H | (rw [hy148]; exact H) | exact H
              have Ny148 := Aside0.mk hy148
              clear hy148
              by_cases c11 : x3_1.length + y148.length < 140737488355328
              · rw [if_pos c11] at H
                have LMc11 := Aside0.mk c11
                clear c11
                obtain ⟨y151, hy151⟩ : ∃ y_ : List Int, y_ = (x3_1 ++ y148) := ⟨_, rfl⟩
                replace H : ((telemetry_groups.f kj4 y151 x6_4).bind fun t154 => (telemetry_squeezed.l0 kj4 l0 t154 x4_1 (wrap64 (x5_1 + x6_4)))) = some r := by first | (rw [hy151]; with_reducible exact H) | (have H2_ := (Option.bind_some _ _).symm.trans H; rw [hy151]; with_reducible exact H2_) | (have H2_ := (Option.bind_some _ _).symm.trans H; with_reducible exact H2_) | with_reducible exact H | (rw [hy151]; exact H) | exact H
                have Ny151 := Aside0.mk hy151
                clear hy151
                replace H := Option.bind_eq_some_iff.mp H
                obtain ⟨t154, A120, H⟩ := H
                replace H : (telemetry_squeezed.l0 kj4 l0 t154 x4_1 (wrap64 (x5_1 + x6_4))) = some r := H
                have A12 := Aside0.mk A120
                clear A120
                have H' := Aside0.mk H
                clear H
                go_wp2_with (first | ((with_reducible refine gate_dst (N := 63) rfl ?_); refine Kd.R_lit (Kd.int .u8) _ 5 ?hg (N := 63) ?hd (xs := ([128, 0] : List Int)) (inner := [.int .u8 128, .int .u8 0]) (ok := fun _ => True) (okp := fun _ => True) ?hr ?hp (fun _ hk => hk) trivial (Below.refl _ _) (Nat.le_refl _) (by simp) ?_; (case hd => rfl); (case hg => rfl); (case hr => first | (go_simp; done) | (go_simp; rfl)); (case hp => exact (Reps.one (show Kd.M (Kd.int .u8) _ _ _ 128 [.int .u8 128] from rfl) (Reps.one (show Kd.M (Kd.int .u8) _ _ _ 0 [.int .u8 0] from rfl) (Reps.none _ _)))); intro v149 w13 ho14 hb hg_ hnew_; clear hg_ hnew_; (first | rw [← Ny148.out] at ho14 | (simp only [Int.reduceToNat] at ho14; rw [← Ny148.out] at ho14)); have n0_ := Aside0.mk (Kd.R_elder' (by (with_reducible repeat (first | apply Kd.R_alloc | apply Kd.R_drewN | apply Kd.R_drew)); exact HO_3.out) (Kd.R_base ho14) hb); have n1_ := Aside0.mk (Kd.R_lower (Kd.R_new' ho14 (Kd.R_lt (by (with_reducible repeat (first | apply Kd.R_alloc | apply Kd.R_drewN | apply Kd.R_drew)); exact HO_3.out))) (below_size (by repeat (first | (with_reducible first | exact HB.out | apply below_alloc | apply pw_below_drewN | apply below_drew1) | exact HB.out)))); have n2_ := Aside0.mk (below_step (by repeat (first | (with_reducible first | exact HB.out | apply below_alloc | apply pw_below_drewN | apply below_drew1) | exact HB.out)) hb); clear HO_3; clear HB; have HO_3 := n0_; have HO150 := n1_; have HB := n2_; clear n0_ n1_ n2_; clear hb ho14; obtain ⟨Ao16, co16, eo16⟩ := Kd.R_slice HO150.out; subst eo16) | ((with_reducible refine gate_builtin (b := .append) (xs := #[.tmp 62, .tmp 63]) rfl ?_); at_builtin; refine Kd.R_append_rows (Kd.int .u8) (w0 := w) w.heap.size rfl (.tmp 62) (.tmp 63) 32 5 (.int .u8 0) 1 rfl Try.underlying32 info5 rfl (by decide) (by omega) u3 x3_1 y148 _ _ _ (fun k_ => some k_ ≠ (.slice Ao16 y148.length co16 : Value).ownBlock) (fun _ => False) rfl rfl ?aO ?aR (fun _ _ h => h) (fun _ h => h.elim) ?aF ?aB ?aS ?aL ?_; (case aR => repeat (first | exact (Kd.R_reads' HO150.out).2.2 | (with_reducible refine Kd.C_alloc ?_ _) | (with_reducible refine Kd.C_drewN ?_ _) | (with_reducible refine Kd.C_drew ?_))); (case aB => exact (by repeat (first | (with_reducible first | exact HB.out | apply below_alloc | apply pw_below_drewN | apply below_drew1) | exact HB.out))); (case aF => exact (fun k_ hk => Kd.fresh' (Kd.R_lt (by (with_reducible repeat (first | apply Kd.R_alloc | apply Kd.R_drewN | apply Kd.R_drew)); exact HO150.out)) k_ hk)); (case aO => exact (by (with_reducible repeat (first | apply Kd.R_alloc | apply Kd.R_drewN | apply Kd.R_drew)); exact Kd.R_mono HO_3.out (fun _ hk => hk.2))); (case aS => exact (below_size (by repeat (first | (with_reducible first | exact HB.out | apply below_alloc | apply pw_below_drewN | apply below_drew1) | exact HB.out)))); (case aL => have := LMc11.out; omega); intro v152 w15 ho hb hg hat; rw [← Ny151.out] at ho; have n0_ := Aside0.mk (Kd.R_after (ok := (fun _ => True)) (by (with_reducible repeat (first | apply Kd.R_alloc | apply Kd.R_drewN | apply Kd.R_drew)); exact HO150.out) hg hat); have n1_ := Aside0.mk (hb); have n2_ := Aside0.mk (ho); clear HO150; clear HB; clear HO_3; have HO150 := n0_; have HB := n1_; have HO153 := n2_; clear n0_ n1_ n2_; clear ho hb hg hat; obtain ⟨Ao17, co17, eo17⟩ := Kd.R_slice HO153.out; subst eo17) | ((with_reducible refine gate_callee (f := 24) rfl ?_); refine goesL_ (some 66) rfl rfl Try.func24 (by kernel_rfl) rfl #[.slice Ao17 y151.length co17, .int .i64 x6_4] rfl (by (try simp only [List.map_toArray, List.map_cons, List.map_nil]); first | done | rfl | (simp only [List.length_drop, List.length_take]; rfl)) ?_; (with_reducible refine (telemetry_groups.calls kj4 (fun k_ => some k_ = (.slice Ao17 y151.length co17 : Value).ownBlock) (.slice Ao17 y151.length co17) y151 x6_4 t154 w _ ?side1 ?side2 A12.out).mono ?_); (case side1 => repeat (first | (with_reducible first | exact HB.out | apply below_alloc | apply pw_below_drewN | apply below_drew1) | exact HB.out)); (case side2 => exact Kd.R_tight rfl HO153.out); rintro e w18 ⟨v155, rfl, ho0, hb, hkp⟩; refine ⟨_, rfl, ?_⟩; have n0_ := Aside0.mk (Kd.R_mono (ok' := fun k_ => some k_ ≠ (v155 : Value).ownBlock) (Kd.R_keptB (HO150.out) hkp (fun k_ hk_ hs_ => (hk_.2) hs_)) (fun k_ hk_ => fun e_ => Or.elim (ho0.1 k_ e_.symm) (fun hs_ => hk_.2.1 hs_) (fun hn_ => Nat.not_le.2 hk_.2.2 hn_))); have n1_ := Aside0.mk (Kd.R_mono (ok' := fun k_ => some k_ ≠ (.slice Ao16 y148.length co16 : Value).ownBlock) ho0 (fun k_ hk_ => Or.elim hk_ (fun hs_ => fun e_ => (((HO150.out).1 k_ e_.symm).2) hs_) (fun hn_ => (Kd.fresh' (Kd.R_lt (by (with_reducible repeat (first | apply Kd.R_alloc | apply Kd.R_drewN | apply Kd.R_drew)); exact HO150.out)) k_ hn_)))); have n2_ := Aside0.mk (hb); clear HO150; clear HB; clear HO153; have HO150 := n0_; have HO156 := n1_; have HB := n2_; clear n0_ n1_ n2_; (try clear hb); (try clear hkp); (try clear ho0)))
                go_roundg kj4
                case measure => have := HK1.out; have := HJ4.out; omega
                case rel => exact ⟨(t154), (x4_1), (wrap64 (x5_1 + x6_4)), (by first | rfl | (simp; done) | (simp [*]; done)), (by first | rfl | (simp; done) | (simp [*]; done)), H', ⟨by have := HK1.out; have := HJ4.out; omega⟩, ⟨by (with_reducible repeat (first | apply Kd.R_alloc | apply Kd.R_drewN | apply Kd.R_drew)); exact Kd.R_mono HO156.out (fun _ hk => trivial)⟩, ⟨by repeat (first | (with_reducible first | exact HB.out | apply below_alloc | apply pw_below_drewN | apply below_drew1) | exact HB.out)⟩⟩
              · rw [if_neg c11] at H
                exact absurd H (by simp)
            · rw [if_neg c10] at H
              have c10b0 : decide (3 ≤ x6_4) = false := decide_eq_false c10
              clear c10
              by_cases c19 : x6_4 > 0
              · rw [if_pos c19] at H
                have c19b0 : decide (0 < x6_4) = true := decide_eq_true c19
                clear c19
                have H' := Aside0.mk H
                clear H
                go_wp2
                go_loopg [3, 74] kj4 (fun kq v3 v74 w' => ∃ (x3_3 : List Int) (x74_3 : Int), v74 = .int .i64 x74_3 ∧ Aside0 (telemetry_squeezed.l2 kq l0 x3_3 x4_1 x5_1 x6_4 x6_4 x74_3 = some r) ∧ Aside0 (kq ≤ kj4) ∧ Aside0 (Kd.R (Kd.int .u8) 5 w' w.heap.size (fun _ => True) v3 x3_3) ∧ Aside0 (Below w.heap.size w w'))
                case atStart => exact ⟨(x3_1), (0), (by first | rfl | (simp; done) | (simp [*]; done)), H', ⟨Nat.le_refl _⟩, ⟨by (with_reducible repeat (first | apply Kd.R_alloc | apply Kd.R_drewN | apply Kd.R_drew)); exact HO_3.out⟩, ⟨by repeat (first | (with_reducible first | exact HB.out | apply below_alloc | apply pw_below_drewN | apply below_drew1) | exact HB.out)⟩⟩
                case round =>
                  clear H'
                  try clear c1
                  try clear p1
                  try clear q1
                  try clear hx1
                  try clear c2
                  try clear p2
                  try clear c4
                  try clear c4b0
                  try clear c6
                  try clear c6b0
                  try clear p6
                  try clear c8
                  try clear c8b0
                  try clear c9
                  try clear c9b0
                  try clear c9b1
                  try clear c10
                  try clear c10b0
                  try clear c11
                  try clear p14
                  try clear q14
                  try clear hx14
                  try clear c18
                  try clear c19
                  try clear c19b0
                  try clear hx147_0
                  try clear p1
                  try clear p147
                  try clear p2
                  try clear p6
                  try clear q1
                  try clear q147
                  obtain ⟨x3_3, x74_3, rfl, HA, HK3, HO_3, HB⟩ := hrel
                  cases gk with
                  | zero => exact absurd HA.out (by simp [telemetry_squeezed.l2])
                  | succ k3 =>
                    have H := HA.out
                    clear HA
                    simp only [telemetry_squeezed.l2] at H
                    by_cases c20 : x74_3 < x6_4
                    · rw [if_pos c20] at H
                      have c20b0 : decide (x74_3 < x6_4) = true := decide_eq_true c20
                      clear c20
                      by_cases c21 : x3_3.length < 140737488355328
                      · rw [if_pos c21] at H
                        have LMc21 := Aside0.mk c21
                        clear c21
                        obtain ⟨y157, hy157⟩ : ∃ y_ : List Int, y_ = (x3_3 ++ [0]) := ⟨_, rfl⟩
                        replace H : (telemetry_squeezed.l2 k3 l0 y157 x4_1 x5_1 x6_4 x6_4 (wrap64 (x74_3 + 1))) = some r := by first | (rw [hy157]; with_reducible exact H) | (have H2_ := (Option.bind_some _ _).symm.trans H; rw [hy157]; with_reducible exact H2_) | (have H2_ := (Option.bind_some _ _).symm.trans H; with_reducible exact H2_) | with_reducible exact H | (rw [hy157]; exact H) | exact H
                        have Ny157 := Aside0.mk hy157
                        clear hy157
                        have H' := Aside0.mk H
                        clear H
                        go_wp2_with (first | ((with_reducible refine gate_builtin (b := .append) (xs := #[.tmp 76, .tmp 77]) rfl ?_); at_builtin; refine Kd.R_append (Kd.int .u8) (w0 := w) w.heap.size rfl (.tmp 76) (.tmp 77) 32 5 (.int .u8 0) 1 rfl Try.underlying32 info5 rfl (by decide) (by omega) u3 x3_3 0 [.int .u8 0] (fun _ => True) (fun _ => False) rfl rfl ?aP (fun _ hk => hk.elim) ?aF ?aO ?aB ?aS ?aL ?_; (case aP => exact rfl); (case aB => exact (by repeat (first | (with_reducible first | exact HB.out | apply below_alloc | apply pw_below_drewN | apply below_drew1) | exact HB.out))); (case aF => exact (fun _ _ => trivial)); (case aO => exact (by (with_reducible repeat (first | apply Kd.R_alloc | apply Kd.R_drewN | apply Kd.R_drew)); exact HO_3.out)); (case aS => exact (below_size (by repeat (first | (with_reducible first | exact HB.out | apply below_alloc | apply pw_below_drewN | apply below_drew1) | exact HB.out)))); (case aL => have := LMc21.out; omega); intro v158 w22 ho hb hg hat; rw [← Ny157.out] at ho; have n0_ := Aside0.mk (hb); have n1_ := Aside0.mk (ho); clear HB; clear HO_3; have HB := n0_; have HO159 := n1_; clear n0_ n1_; clear ho hb hg hat))
                        go_roundg k3
                        case measure => have := HK1.out; have := HJ4.out; have := HK3.out; omega
                        case rel => exact ⟨(y157), (wrap64 (x74_3 + 1)), (by first | rfl | (simp; done) | (simp [*]; done)), H', ⟨by have := HK1.out; have := HJ4.out; have := HK3.out; omega⟩, ⟨by (with_reducible repeat (first | apply Kd.R_alloc | apply Kd.R_drewN | apply Kd.R_drew)); exact HO159.out⟩, ⟨by repeat (first | (with_reducible first | exact HB.out | apply below_alloc | apply pw_below_drewN | apply below_drew1) | exact HB.out)⟩⟩
                      · rw [if_neg c21] at H
                        exact absurd H (by simp)
                    · rw [if_neg c20] at H
                      have c20b0 : decide (x74_3 < x6_4) = false := decide_eq_false c20
                      clear c20
                      have H' := Aside0.mk H
                      clear H
                      go_wp2
                      go_roundg k3
                      case measure => have := HK1.out; have := HJ4.out; have := HK3.out; omega
                      case rel => exact ⟨(x3_3), (x4_1), (wrap64 (x5_1 + x6_4)), (by first | rfl | (simp; done) | (simp [*]; done)), (by first | rfl | (simp; done) | (simp [*]; done)), H', ⟨by have := HK1.out; have := HJ4.out; have := HK3.out; omega⟩, ⟨by (with_reducible repeat (first | apply Kd.R_alloc | apply Kd.R_drewN | apply Kd.R_drew)); exact HO_3.out⟩, ⟨by repeat (first | (with_reducible first | exact HB.out | apply below_alloc | apply pw_below_drewN | apply below_drew1) | exact HB.out)⟩⟩
              · rw [if_neg c19] at H
                have c19b0 : decide (0 < x6_4) = false := decide_eq_false c19
                clear c19
                by_cases c23 : 0 ≤ x5_1
                · rw [if_pos c23] at H
                  have c23b0 : decide (0 ≤ x5_1) = true := decide_eq_true c23
                  clear c23
                  by_cases c24 : x5_1 < (l0.length : Int)
                  · rw [if_pos c24] at H
                    have c24b0 : decide (x5_1 < (l0.length : Int)) = true := decide_eq_true c24
                    clear c24
                    by_cases c25 : (wrap64 (2 * (wrap64 ((rd l0 x5_1) - x4_1)))) < 0
                    · rw [if_pos c25] at H
                      have c25b0 : decide ((wrap64 (2 * (wrap64 ((rd l0 x5_1) - x4_1)))) < 0) = true := decide_eq_true c25
                      clear c25
                      replace H := Option.bind_eq_some_iff.mp H
                      obtain ⟨t161, A260, H⟩ := H
                      replace H : (telemetry_squeezed.l0 kj4 l0 t161 (rd l0 x5_1) (wrap64 (x5_1 + 1))) = some r := H
                      have A26 := Aside0.mk A260
                      clear A260
                      have H' := Aside0.mk H
                      clear H
                      have p160 : 0 ≤ (x5_1 : Int) := of_decide_eq_true (by first | (with_reducible assumption) | assumption)
                      have q160 : x5_1 < (l0.length : Int) := of_decide_eq_true (by first | (with_reducible assumption) | assumption)
                      obtain ⟨ad160, e160, hx160_0⟩ := Kd.at_int HR0.out x5_1 p160 q160
                      cases e160
                      replace hx160_0 := (HB.out.cell (World.block_lt_of_cell? w _ hx160_0)).trans hx160_0
                      replace p160 := eq_true p160
                      replace q160 := eq_true q160
                      obtain ⟨Ao27, co27, eo27⟩ := Kd.R_slice HO_3.out
                      subst eo27
                      go_wp2_with (first | ((with_reducible refine gate_callee (f := 24) rfl ?_); refine goesL_ (some 52) rfl rfl Try.func24 (by kernel_rfl) rfl #[.slice Ao27 x3_1.length co27, .int .i64 (wrap64 ((wrap64 (-(wrap64 (2 * (wrap64 ((rd l0 x5_1) - x4_1)))))) - 1))] rfl (by (try simp only [List.map_toArray, List.map_cons, List.map_nil]); first | done | rfl | (simp only [List.length_drop, List.length_take]; rfl)) ?_; (with_reducible refine (telemetry_groups.calls kj4 (fun k_ => some k_ = (.slice Ao27 x3_1.length co27 : Value).ownBlock) (.slice Ao27 x3_1.length co27) x3_1 (wrap64 ((wrap64 (-(wrap64 (2 * (wrap64 ((rd l0 x5_1) - x4_1)))))) - 1)) t161 w _ ?side1 ?side2 A26.out).mono ?_); (case side1 => repeat (first | (with_reducible first | exact HB.out | apply below_alloc | apply pw_below_drewN | apply below_drew1) | exact HB.out)); (case side2 => exact Kd.R_tight rfl HO_3.out); rintro e w28 ⟨v162, rfl, ho0, hb, hkp⟩; refine ⟨_, rfl, ?_⟩; have n0_ := Aside0.mk (Kd.R_mono (ok' := fun k_ => True) ho0 (fun k_ hk_ => trivial)); have n1_ := Aside0.mk (hb); clear HB; clear HO_3; have HO163 := n0_; have HB := n1_; clear n0_ n1_; (try clear hb); (try clear hkp); (try clear ho0); have p164 : 0 ≤ (x5_1 : Int) := of_decide_eq_true (by first | (with_reducible assumption) | assumption); have q164 : x5_1 < (l0.length : Int) := of_decide_eq_true (by first | (with_reducible assumption) | assumption); obtain ⟨ad164, e164, hx164_0⟩ := Kd.at_int HR0.out x5_1 p164 q164; obtain rfl : ad160 = ad164 := (by injection e164); replace hx164_0 := (HB.out.cell (World.block_lt_of_cell? w _ hx164_0)).trans hx164_0; replace p164 := eq_true p164; replace q164 := eq_true q164))
                      go_roundg kj4
                      case measure => have := HK1.out; have := HJ4.out; omega
                      case rel => exact ⟨(t161), (rd l0 x5_1), (wrap64 (x5_1 + 1)), (by first | rfl | (simp; done) | (simp [*]; done)), (by first | rfl | (simp; done) | (simp [*]; done)), H', ⟨by have := HK1.out; have := HJ4.out; omega⟩, ⟨by (with_reducible repeat (first | apply Kd.R_alloc | apply Kd.R_drewN | apply Kd.R_drew)); exact HO163.out⟩, ⟨by repeat (first | (with_reducible first | exact HB.out | apply below_alloc | apply pw_below_drewN | apply below_drew1) | exact HB.out)⟩⟩
                    · rw [if_neg c25] at H
                      have c25b0 : decide ((wrap64 (2 * (wrap64 ((rd l0 x5_1) - x4_1)))) < 0) = false := decide_eq_false c25
                      clear c25
                      replace H := Option.bind_eq_some_iff.mp H
                      obtain ⟨t165, A290, H⟩ := H
                      replace H : (telemetry_squeezed.l0 kj4 l0 t165 (rd l0 x5_1) (wrap64 (x5_1 + 1))) = some r := H
                      have A29 := Aside0.mk A290
                      clear A290
                      have H' := Aside0.mk H
                      clear H
                      have p160 : 0 ≤ (x5_1 : Int) := of_decide_eq_true (by first | (with_reducible assumption) | assumption)
                      have q160 : x5_1 < (l0.length : Int) := of_decide_eq_true (by first | (with_reducible assumption) | assumption)
                      obtain ⟨ad160, e160, hx160_0⟩ := Kd.at_int HR0.out x5_1 p160 q160
                      cases e160
                      replace hx160_0 := (HB.out.cell (World.block_lt_of_cell? w _ hx160_0)).trans hx160_0
                      replace p160 := eq_true p160
                      replace q160 := eq_true q160
                      obtain ⟨Ao30, co30, eo30⟩ := Kd.R_slice HO_3.out
                      subst eo30
                      go_wp2_with (first | ((with_reducible refine gate_callee (f := 24) rfl ?_); refine goesL_ (some 52) rfl rfl Try.func24 (by kernel_rfl) rfl #[.slice Ao30 x3_1.length co30, .int .i64 (wrap64 (2 * (wrap64 ((rd l0 x5_1) - x4_1))))] rfl (by (try simp only [List.map_toArray, List.map_cons, List.map_nil]); first | done | rfl | (simp only [List.length_drop, List.length_take]; rfl)) ?_; (with_reducible refine (telemetry_groups.calls kj4 (fun k_ => some k_ = (.slice Ao30 x3_1.length co30 : Value).ownBlock) (.slice Ao30 x3_1.length co30) x3_1 (wrap64 (2 * (wrap64 ((rd l0 x5_1) - x4_1)))) t165 w _ ?side1 ?side2 A29.out).mono ?_); (case side1 => repeat (first | (with_reducible first | exact HB.out | apply below_alloc | apply pw_below_drewN | apply below_drew1) | exact HB.out)); (case side2 => exact Kd.R_tight rfl HO_3.out); rintro e w31 ⟨v166, rfl, ho0, hb, hkp⟩; refine ⟨_, rfl, ?_⟩; have n0_ := Aside0.mk (Kd.R_mono (ok' := fun k_ => True) ho0 (fun k_ hk_ => trivial)); have n1_ := Aside0.mk (hb); clear HB; clear HO_3; have HO167 := n0_; have HB := n1_; clear n0_ n1_; (try clear hb); (try clear hkp); (try clear ho0); have p168 : 0 ≤ (x5_1 : Int) := of_decide_eq_true (by first | (with_reducible assumption) | assumption); have q168 : x5_1 < (l0.length : Int) := of_decide_eq_true (by first | (with_reducible assumption) | assumption); obtain ⟨ad168, e168, hx168_0⟩ := Kd.at_int HR0.out x5_1 p168 q168; obtain rfl : ad160 = ad168 := (by injection e168); replace hx168_0 := (HB.out.cell (World.block_lt_of_cell? w _ hx168_0)).trans hx168_0; replace p168 := eq_true p168; replace q168 := eq_true q168))
                      go_roundg kj4
                      case measure => have := HK1.out; have := HJ4.out; omega
                      case rel => exact ⟨(t165), (rd l0 x5_1), (wrap64 (x5_1 + 1)), (by first | rfl | (simp; done) | (simp [*]; done)), (by first | rfl | (simp; done) | (simp [*]; done)), H', ⟨by have := HK1.out; have := HJ4.out; omega⟩, ⟨by (with_reducible repeat (first | apply Kd.R_alloc | apply Kd.R_drewN | apply Kd.R_drew)); exact HO167.out⟩, ⟨by repeat (first | (with_reducible first | exact HB.out | apply below_alloc | apply pw_below_drewN | apply below_drew1) | exact HB.out)⟩⟩
                  · rw [if_neg c24] at H
                    exact absurd H (by simp)
                · rw [if_neg c23] at H
                  exact absurd H (by simp)
      · rw [if_neg c4] at H
        have c4b0 : decide (x5_1 < (l0.length : Int)) = false := decide_eq_false c4
        clear c4
        obtain rfl := Option.some.inj H
        go_wp2
        go_ret
        exact ⟨_, by first | rfl | (simp [errW_none, errW_some] <;> rfl) | (simp [*, errW_none, errW_some] <;> rfl), by (with_reducible repeat (first | apply Kd.R_alloc | apply Kd.R_drewN | apply Kd.R_drew)); exact HO_3.out, by repeat (first | (with_reducible first | exact HB.out | apply below_alloc | apply pw_below_drewN | apply below_drew1) | exact HB.out)⟩

end Go.Proofs.Ytbkmohnmciojpaa.P

-- YtbkmohnmciojpaaF9
namespace Go.Proofs.Ytbkmohnmciojpaa.P
open Go.RowKit Go.Proofs.YtbkmohnmciojpaaW.PrintWords Go.Proofs.YtbkmohnmciojpaaW.PrintLast Go.Proofs.YtbkmohnmciojpaaW.PrintMore
attribute [local go_sem] max2_int min2_int max_two min_two max_three min_three max_four min_four   -- for this text's walks alone
set_option linter.unusedVariables false
set_option linter.unusedSimpArgs false

/-! ### telemetry_Squeezed: function 10 -/
def telemetry_Squeezed.l0 : Nat → List Int → List Int → Int → Int → Option (List Int × Int)
  | 0, _, _, _, _ => none
  | k + 1, x0, x9, x10, x11 => if x11 < x10 then (if 0 ≤ x11 then (if x11 < (x9.length : Int) then ((kit_In.f (rd x9 x11) (-1000000000) 1000000000).bind fun t170 => (if t170 = true then (telemetry_Squeezed.l0 k x0 x9 x10 (wrap64 (x11 + 1))) else (some (([] : List Int), 1)))) else (none)) else (none)) else ((telemetry_squeezed.f k x0).bind fun t171 => (some (t171, 0)))
def telemetry_Squeezed.f (k : Nat) (l0 : List Int) : Option (List Int × Int) := if (l0.length : Int) > 5000 then (some (([] : List Int), 2)) else (telemetry_Squeezed.l0 k l0 l0 (l0.length : Int) 0)
theorem telemetry_Squeezed.mono_l : ∀ k, (∀ y0 y1 y2 y3, LeO (telemetry_Squeezed.l0 k y0 y1 y2 y3) (telemetry_Squeezed.l0 (k + 1) y0 y1 y2 y3))
  | 0 => fun _ _ _ _ r h => by simp [telemetry_Squeezed.l0] at h
  | k + 1 => by
    have ih0 := telemetry_Squeezed.mono_l k
    · intro y0 y1 y2 y3
      unfold telemetry_Squeezed.l0
      repeat' first
      | (with_reducible exact ih0 _ _ _ _)
      | (with_reducible exact telemetry_squeezed.mono _ _)
      | (with_reducible exact LeO.refl _)
      | (with_reducible exact LeO.none _)
      | (with_reducible refine LeO.ite ?_ ?_)
      | (with_reducible refine LeO.bind ?_ (fun _ => ?_))
      | exact ih0 _ _ _ _
      | exact telemetry_squeezed.mono _ _
      | exact LeO.none _
      | refine LeO.ite ?_ ?_
      | refine LeO.bind ?_ (fun _ => ?_)
theorem telemetry_Squeezed.mono : ∀ a0 k, LeO (telemetry_Squeezed.f k a0) (telemetry_Squeezed.f (k + 1) a0) := by
  intro a0 k
  have ih0 := telemetry_Squeezed.mono_l k
  unfold telemetry_Squeezed.f
  repeat' first
      | (with_reducible exact ih0 _ _ _ _)
      | (with_reducible exact telemetry_squeezed.mono _ _)
      | (with_reducible exact LeO.refl _)
      | (with_reducible exact LeO.none _)
      | (with_reducible refine LeO.ite ?_ ?_)
      | (with_reducible refine LeO.bind ?_ (fun _ => ?_))
      | exact ih0 _ _ _ _
      | exact telemetry_squeezed.mono _ _
      | exact LeO.none _
      | refine LeO.ite ?_ ?_
      | refine LeO.bind ?_ (fun _ => ?_)
set_option maxHeartbeats 8000000 in
set_option maxRecDepth 100000 in
theorem telemetry_Squeezed.calls (k : Nat) (A0 : Option Addr) (c0 : Nat) (l0 : List Int) (r1 : List Int) (r2 : Int) (w : World) (hr0 : Kd.C (Kd.int .i64) w A0 l0.length l0) (hc0 : l0.length ≤ c0) (h : telemetry_Squeezed.f k l0 = some (r1, r2)) :
    Calls Try.prog 10 #[.slice A0 l0.length c0] w fun e w' => ∃ v0_ : Value, e = .returned (.tuple #[v0_, .int .i64 r2]) ∧ Kd.R (Kd.int .u8) 5 w' w.heap.size (fun _ => True) v0_ r1 ∧ Below w.heap.size w w' := by
  have HR0 := Aside0.mk hr0
  have HC0 := Aside0.mk hc0
  clear hr0 hc0
  have HB := Aside0.mk (Below.refl w.heap.size w)
  have H : (if (l0.length : Int) > 5000 then (some (([] : List Int), 2)) else (telemetry_Squeezed.l0 k l0 l0 (l0.length : Int) 0)) = some (r1, r2) := h
  clear h
  by_cases c2 : (l0.length : Int) > 5000
  · rw [if_pos c2] at H
    have c2b0 : decide (5000 < (l0.length : Int)) = true := decide_eq_true c2
    have c2b1 : decide (5000 < l0.length) = true := decide_eq_true (by omega)
    clear c2
    simp only [Option.some.injEq, Prod.mk.injEq] at H
    obtain ⟨rfl, rfl⟩ := H
    go_enter Try.func10, Try.ntmps10
    go_wp2
    go_ret2
    exact ⟨_, by first | rfl | (simp [errW_none, errW_some] <;> rfl) | (simp [*, errW_none, errW_some] <;> rfl), by first | exact Kd.R_nil _ _ _ _ _ | exact Kd.N_nil _ _ _ _ _ | exact Kd.V_nil _ _ _ _ _ | exact Kd.Q_nil _ _ _ _ _ | exact Kd.S_nil _ _ _ _ _, by repeat (first | (with_reducible first | exact HB.out | apply below_alloc | apply pw_below_drewN | apply below_drew1) | exact HB.out)⟩
  · rw [if_neg c2] at H
    have c2b0 : decide (5000 < (l0.length : Int)) = false := decide_eq_false c2
    have c2b1 : decide (5000 < l0.length) = false := decide_eq_false (by omega)
    clear c2
    have H' := Aside0.mk H
    clear H
    go_enter Try.func10, Try.ntmps10
    go_wp2
    go_loopg [11] k (fun kq v11 w' => ∃ (x11_1 : Int), v11 = .int .i64 x11_1 ∧ Aside0 (telemetry_Squeezed.l0 kq l0 l0 (l0.length : Int) x11_1 = some (r1, r2)) ∧ Aside0 (kq ≤ k) ∧ Aside0 (Below w.heap.size w w'))
    case atStart => exact ⟨(0), (by first | rfl | (simp; done) | (simp [*]; done)), H', ⟨Nat.le_refl _⟩, ⟨by repeat (first | (with_reducible first | exact HB.out | apply below_alloc | apply pw_below_drewN | apply below_drew1) | exact HB.out)⟩⟩
    case round =>
      clear H'
      try clear c1
      try clear c2
      try clear c2b0
      try clear c2b1
      try clear p2
      obtain ⟨x11_1, rfl, HA, HK1, HB⟩ := hrel
      cases gk with
      | zero => exact absurd HA.out (by simp [telemetry_Squeezed.l0])
      | succ k1 =>
        have H := HA.out
        clear HA
        simp only [telemetry_Squeezed.l0] at H
        by_cases c3 : x11_1 < (l0.length : Int)
        · rw [if_pos c3] at H
          have c3b0 : decide (x11_1 < (l0.length : Int)) = true := decide_eq_true c3
          clear c3
          by_cases c4 : 0 ≤ x11_1
          · rw [if_pos c4] at H
            have c4b0 : decide (0 ≤ x11_1) = true := decide_eq_true c4
            clear c4
            by_cases c5 : x11_1 < (l0.length : Int)
            · rw [if_pos c5] at H
              have c5b0 : decide (x11_1 < (l0.length : Int)) = true := decide_eq_true c5
              clear c5
              replace H := Option.bind_eq_some_iff.mp H
              obtain ⟨t170, A60, H⟩ := H
              replace H : (if t170 = true then (telemetry_Squeezed.l0 k1 l0 l0 (l0.length : Int) (wrap64 (x11_1 + 1))) else (some (([] : List Int), 1))) = some (r1, r2) := H
              have A6 := Aside0.mk A60
              clear A60
              by_cases c7 : t170 = true
              · subst c7
                have H1 : (telemetry_Squeezed.l0 k1 l0 l0 (l0.length : Int) (wrap64 (x11_1 + 1))) = some (r1, r2) := by rw [if_pos rfl] at H; exact H
                clear H
                have H := H1
                clear H1
                have H' := Aside0.mk H
                clear H
                have p169 : 0 ≤ (x11_1 : Int) := of_decide_eq_true (by first | (with_reducible assumption) | assumption)
                have q169 : x11_1 < (l0.length : Int) := of_decide_eq_true (by first | (with_reducible assumption) | assumption)
                obtain ⟨ad169, e169, hx169_0⟩ := Kd.at_int HR0.out x11_1 p169 q169
                cases e169
                replace hx169_0 := (HB.out.cell (World.block_lt_of_cell? w _ hx169_0)).trans hx169_0
                replace p169 := eq_true p169
                replace q169 := eq_true q169
                go_wp2_with (first | ((with_reducible refine gate_callee (f := 16) rfl ?_); refine goesL_ (some 16) rfl rfl Try.func16 (by kernel_rfl) rfl #[.int .i64 (rd l0 x11_1), .int .i64 (-1000000000), .int .i64 1000000000] rfl (by (try simp only [List.map_toArray, List.map_cons, List.map_nil]); first | done | rfl | (simp only [List.length_drop, List.length_take]; rfl)) ?_; (with_reducible refine (kit_In.calls (rd l0 x11_1) (-1000000000) 1000000000 true _ A6.out).mono ?_); rintro e w' ⟨rfl, ⟨nd, rfl⟩⟩; refine ⟨_, rfl, ?_⟩))
                go_roundg k1
                case measure => have := HK1.out; omega
                case rel => exact ⟨(wrap64 (x11_1 + 1)), (by first | rfl | (simp; done) | (simp [*]; done)), H', ⟨by have := HK1.out; omega⟩, ⟨by repeat (first | (with_reducible first | exact HB.out | apply below_alloc | apply pw_below_drewN | apply below_drew1) | exact HB.out)⟩⟩
              · replace c7 := Bool.eq_false_iff.mpr c7
                subst c7
                have H1 : (some (([] : List Int), 1)) = some (r1, r2) := by rw [if_neg (show ¬ (false = true) by decide)] at H; exact H
                clear H
                have H := H1
                clear H1
                simp only [Option.some.injEq, Prod.mk.injEq] at H
                obtain ⟨rfl, rfl⟩ := H
                have p169 : 0 ≤ (x11_1 : Int) := of_decide_eq_true (by first | (with_reducible assumption) | assumption)
                have q169 : x11_1 < (l0.length : Int) := of_decide_eq_true (by first | (with_reducible assumption) | assumption)
                obtain ⟨ad169, e169, hx169_0⟩ := Kd.at_int HR0.out x11_1 p169 q169
                cases e169
                replace hx169_0 := (HB.out.cell (World.block_lt_of_cell? w _ hx169_0)).trans hx169_0
                replace p169 := eq_true p169
                replace q169 := eq_true q169
                go_wp2_with (first | ((with_reducible refine gate_callee (f := 16) rfl ?_); refine goesL_ (some 16) rfl rfl Try.func16 (by kernel_rfl) rfl #[.int .i64 (rd l0 x11_1), .int .i64 (-1000000000), .int .i64 1000000000] rfl (by (try simp only [List.map_toArray, List.map_cons, List.map_nil]); first | done | rfl | (simp only [List.length_drop, List.length_take]; rfl)) ?_; (with_reducible refine (kit_In.calls (rd l0 x11_1) (-1000000000) 1000000000 false _ A6.out).mono ?_); rintro e w' ⟨rfl, ⟨nd, rfl⟩⟩; refine ⟨_, rfl, ?_⟩))
                go_ret2
                exact ⟨_, by first | rfl | (simp [errW_none, errW_some] <;> rfl) | (simp [*, errW_none, errW_some] <;> rfl), by first | exact Kd.R_nil _ _ _ _ _ | exact Kd.N_nil _ _ _ _ _ | exact Kd.V_nil _ _ _ _ _ | exact Kd.Q_nil _ _ _ _ _ | exact Kd.S_nil _ _ _ _ _, by repeat (first | (with_reducible first | exact HB.out | apply below_alloc | apply pw_below_drewN | apply below_drew1) | exact HB.out)⟩
            · rw [if_neg c5] at H
              exact absurd H (by simp)
          · rw [if_neg c4] at H
            exact absurd H (by simp)
        · rw [if_neg c3] at H
          have c3b0 : decide (x11_1 < (l0.length : Int)) = false := decide_eq_false c3
          clear c3
          replace H := Option.bind_eq_some_iff.mp H
          obtain ⟨t171, A80, H⟩ := H
          replace H : (some (t171, 0)) = some (r1, r2) := H
          have A8 := Aside0.mk A80
          clear A80
          simp only [Option.some.injEq, Prod.mk.injEq] at H
          obtain ⟨rfl, rfl⟩ := H
          go_wp2_with (first | ((with_reducible refine gate_callee (f := 18) rfl ?_); refine goesL_ (some 20) rfl rfl Try.func18 (by kernel_rfl) rfl #[.slice A0 l0.length c0] rfl (by (try simp only [List.map_toArray, List.map_cons, List.map_nil]); first | done | rfl | (simp only [List.length_drop, List.length_take]; rfl)) ?_; (with_reducible refine (telemetry_squeezed.calls k1 _ _ l0 t171 _ ?side1 ?side2 A8.out).mono ?_); (case side1 => repeat (first | exact (Kd.C_below HR0.out HB.out) | (with_reducible refine Kd.C_alloc ?_ _) | (with_reducible refine Kd.C_drewN ?_ _) | (with_reducible refine Kd.C_drew ?_))); (case side2 => exact HC0.out); rintro e w9 ⟨v172, rfl, ho0, hb⟩; refine ⟨_, rfl, ?_⟩; have n0_ := Aside0.mk (Kd.R_lower ho0 (below_size (by repeat (first | (with_reducible first | exact HB.out | apply below_alloc | apply pw_below_drewN | apply below_drew1) | exact HB.out)))); have n1_ := Aside0.mk (below_step (by repeat (first | (with_reducible first | exact HB.out | apply below_alloc | apply pw_below_drewN | apply below_drew1) | exact HB.out)) hb); clear HB; have HO173 := n0_; have HB := n1_; clear n0_ n1_; (try clear hb); (try clear hb2); (try clear hk); (try clear hi); (try clear ho0)))
          go_ret2
          exact ⟨_, by first | rfl | (simp [errW_none, errW_some] <;> rfl) | (simp [*, errW_none, errW_some] <;> rfl), by (with_reducible repeat (first | apply Kd.R_alloc | apply Kd.R_drewN | apply Kd.R_drew)); exact HO173.out, by repeat (first | (with_reducible first | exact HB.out | apply below_alloc | apply pw_below_drewN | apply below_drew1) | exact HB.out)⟩

end Go.Proofs.Ytbkmohnmciojpaa.P

-- YtbkmohnmciojpaaF10
namespace Go.Proofs.Ytbkmohnmciojpaa.P
open Go.RowKit Go.Proofs.YtbkmohnmciojpaaW.PrintWords Go.Proofs.YtbkmohnmciojpaaW.PrintLast Go.Proofs.YtbkmohnmciojpaaW.PrintMore
attribute [local go_sem] max2_int min2_int max_two min_two max_three min_three max_four min_four   -- for this text's walks alone
set_option linter.unusedVariables false
set_option linter.unusedSimpArgs false

/-! ### slices_Equal_byte_byte: function 13 -/
def slices_Equal_byte_byte.l0 : Nat → List Int → List Int → Int → Int → Option (Bool)
  | 0, _, _, _, _ => none
  | k + 1, x0, x1, x12, x13 => if x13 < x12 then (if 0 ≤ x13 then (if x13 < (x0.length : Int) then (if x13 < (x1.length : Int) then (if (rd x0 x13) = (rd x1 x13) then (slices_Equal_byte_byte.l0 k x0 x1 x12 (wrap64 (x13 + 1))) else (some false)) else (none)) else (none)) else (none)) else (some true)
def slices_Equal_byte_byte.f (k : Nat) (l0 : List Int) (l1 : List Int) : Option (Bool) := if (l0.length : Int) = (l1.length : Int) then (slices_Equal_byte_byte.l0 k l0 l1 (l0.length : Int) 0) else (some false)
theorem slices_Equal_byte_byte.mono_l : ∀ k, (∀ y0 y1 y2 y3, LeO (slices_Equal_byte_byte.l0 k y0 y1 y2 y3) (slices_Equal_byte_byte.l0 (k + 1) y0 y1 y2 y3))
  | 0 => fun _ _ _ _ r h => by simp [slices_Equal_byte_byte.l0] at h
  | k + 1 => by
    have ih0 := slices_Equal_byte_byte.mono_l k
    · intro y0 y1 y2 y3
      unfold slices_Equal_byte_byte.l0
      repeat' first
      | (with_reducible exact ih0 _ _ _ _)
      | (with_reducible exact LeO.refl _)
      | (with_reducible exact LeO.none _)
      | (with_reducible refine LeO.ite ?_ ?_)
      | (with_reducible refine LeO.bind ?_ (fun _ => ?_))
      | exact ih0 _ _ _ _
      | exact LeO.none _
      | refine LeO.ite ?_ ?_
      | refine LeO.bind ?_ (fun _ => ?_)
theorem slices_Equal_byte_byte.mono : ∀ a0 a1 k, LeO (slices_Equal_byte_byte.f k a0 a1) (slices_Equal_byte_byte.f (k + 1) a0 a1) := by
  intro a0 a1 k
  have ih0 := slices_Equal_byte_byte.mono_l k
  unfold slices_Equal_byte_byte.f
  repeat' first
      | (with_reducible exact ih0 _ _ _ _)
      | (with_reducible exact LeO.refl _)
      | (with_reducible exact LeO.none _)
      | (with_reducible refine LeO.ite ?_ ?_)
      | (with_reducible refine LeO.bind ?_ (fun _ => ?_))
      | exact ih0 _ _ _ _
      | exact LeO.none _
      | refine LeO.ite ?_ ?_
      | refine LeO.bind ?_ (fun _ => ?_)
set_option maxHeartbeats 8000000 in
set_option maxRecDepth 100000 in
theorem slices_Equal_byte_byte.calls (k : Nat) (A0 : Option Addr) (c0 : Nat) (l0 : List Int) (A1 : Option Addr) (c1 : Nat) (l1 : List Int) (r : Bool) (w : World) (hr0 : Kd.C (Kd.int .u8) w A0 l0.length l0) (hc0 : l0.length ≤ c0) (hr1 : Kd.C (Kd.int .u8) w A1 l1.length l1) (hc1 : l1.length ≤ c1) (h : slices_Equal_byte_byte.f k l0 l1 = some r) :
    Calls Try.prog 13 #[.slice A0 l0.length c0, .slice A1 l1.length c1] w fun e w' => e = .returned (.bool r) ∧ Drawn0 w w' := by
  have HR0 := Aside0.mk hr0
  have HC0 := Aside0.mk hc0
  clear hr0 hc0
  have HR1 := Aside0.mk hr1
  have HC1 := Aside0.mk hc1
  clear hr1 hc1
  have H : (if (l0.length : Int) = (l1.length : Int) then (slices_Equal_byte_byte.l0 k l0 l1 (l0.length : Int) 0) else (some false)) = some r := h
  clear h
  by_cases c3 : (l0.length : Int) = (l1.length : Int)
  · rw [if_pos c3] at H
    have c3b0 : ((l0.length : Int) == (l1.length : Int)) = true := beq_iff_eq.mpr c3
    have c3b1 : ((l0.length : Int) != (l1.length : Int)) = false := bne_eq_false_iff_eq.mpr c3
    have c3b2 : (l0.length == l1.length) = true := by first | simpa using c3 | (simp at c3 ⊢; omega)
    clear c3
    have H' := Aside0.mk H
    clear H
    go_enter Try.func13, Try.ntmps13
    go_wp2
    repeat (go_quiet (fail); try go_wp2)
    go_loopg [13] k (fun kq v13 w' => ∃ (x13_1 : Int), v13 = .int .i64 x13_1 ∧ Aside0 (slices_Equal_byte_byte.l0 kq l0 l1 (l0.length : Int) x13_1 = some r) ∧ Aside0 (kq ≤ k) ∧ Drawn0 w w')
    case atStart => exact ⟨(0), (by first | rfl | (simp; done) | (simp [*]; done)), H', ⟨Nat.le_refl _⟩, by repeat (first | exact Drawn0.refl _ | apply Drawn0.step)⟩
    case round =>
      clear H'
      try clear c1
      try clear p2
      try clear c3
      try clear c3b0
      try clear c3b1
      try clear c3b2
      obtain ⟨x13_1, rfl, HA, HK1, ⟨m1, rfl⟩⟩ := hrel
      cases gk with
      | zero => exact absurd HA.out (by simp [slices_Equal_byte_byte.l0])
      | succ k1 =>
        have H := HA.out
        clear HA
        simp only [slices_Equal_byte_byte.l0] at H
        by_cases c4 : x13_1 < (l0.length : Int)
        · rw [if_pos c4] at H
          have c4b0 : decide (x13_1 < (l0.length : Int)) = true := decide_eq_true c4
          clear c4
          by_cases c5 : 0 ≤ x13_1
          · rw [if_pos c5] at H
            have c5b0 : decide (0 ≤ x13_1) = true := decide_eq_true c5
            clear c5
            by_cases c6 : x13_1 < (l0.length : Int)
            · rw [if_pos c6] at H
              have c6b0 : decide (x13_1 < (l0.length : Int)) = true := decide_eq_true c6
              clear c6
              by_cases c7 : x13_1 < (l1.length : Int)
              · rw [if_pos c7] at H
                have c7b0 : decide (x13_1 < (l1.length : Int)) = true := decide_eq_true c7
                clear c7
                by_cases c8 : (rd l0 x13_1) = (rd l1 x13_1)
                · rw [if_pos c8] at H
                  have c8b0 : ((rd l0 x13_1) == (rd l1 x13_1)) = true := beq_iff_eq.mpr c8
                  have c8b1 : ((rd l0 x13_1) != (rd l1 x13_1)) = false := bne_eq_false_iff_eq.mpr c8
                  clear c8
                  have H' := Aside0.mk H
                  clear H
                  have p174 : 0 ≤ (x13_1 : Int) := of_decide_eq_true (by first | (with_reducible assumption) | assumption)
                  have q174 : x13_1 < (l0.length : Int) := of_decide_eq_true (by first | (with_reducible assumption) | assumption)
                  obtain ⟨ad174, e174, hx174_0⟩ := Kd.at_int HR0.out x13_1 p174 q174
                  cases e174
                  replace p174 := eq_true p174
                  replace q174 := eq_true q174
                  have p175 : 0 ≤ (x13_1 : Int) := of_decide_eq_true (by first | (with_reducible assumption) | assumption)
                  have q175 : x13_1 < (l1.length : Int) := of_decide_eq_true (by first | (with_reducible assumption) | assumption)
                  obtain ⟨ad175, e175, hx175_0⟩ := Kd.at_int HR1.out x13_1 p175 q175
                  cases e175
                  replace p175 := eq_true p175
                  replace q175 := eq_true q175
                  go_wp2
                  repeat (go_quiet (fail); try go_wp2)
                  go_roundg k1
                  case measure => have := HK1.out; omega
                  case rel => exact ⟨(wrap64 (x13_1 + 1)), (by first | rfl | (simp; done) | (simp [*]; done)), H', ⟨by have := HK1.out; omega⟩, by repeat (first | exact Drawn0.refl _ | apply Drawn0.step)⟩
                · rw [if_neg c8] at H
                  have c8b0 : ((rd l0 x13_1) == (rd l1 x13_1)) = false := beq_eq_false_iff_ne.mpr c8
                  have c8b1 : ((rd l0 x13_1) != (rd l1 x13_1)) = true := bne_iff_ne.mpr c8
                  obtain rfl := Option.some.inj H
                  have p174 : 0 ≤ (x13_1 : Int) := of_decide_eq_true (by first | (with_reducible assumption) | assumption)
                  have q174 : x13_1 < (l0.length : Int) := of_decide_eq_true (by first | (with_reducible assumption) | assumption)
                  obtain ⟨ad174, e174, hx174_0⟩ := Kd.at_int HR0.out x13_1 p174 q174
                  cases e174
                  replace p174 := eq_true p174
                  replace q174 := eq_true q174
                  have p175 : 0 ≤ (x13_1 : Int) := of_decide_eq_true (by first | (with_reducible assumption) | assumption)
                  have q175 : x13_1 < (l1.length : Int) := of_decide_eq_true (by first | (with_reducible assumption) | assumption)
                  obtain ⟨ad175, e175, hx175_0⟩ := Kd.at_int HR1.out x13_1 p175 q175
                  cases e175
                  replace p175 := eq_true p175
                  replace q175 := eq_true q175
                  go_wp2
                  repeat (go_quiet (fail); try go_wp2)
                  go_ret
                  exact ⟨by first | rfl | (simp; done) | (simp [*]; done), by repeat (first | exact Drawn0.refl _ | apply Drawn0.step)⟩
              · rw [if_neg c7] at H
                exact absurd H (by simp)
            · rw [if_neg c6] at H
              exact absurd H (by simp)
          · rw [if_neg c5] at H
            exact absurd H (by simp)
        · rw [if_neg c4] at H
          have c4b0 : decide (x13_1 < (l0.length : Int)) = false := decide_eq_false c4
          clear c4
          obtain rfl := Option.some.inj H
          go_wp2
          repeat (go_quiet (fail); try go_wp2)
          go_ret
          exact ⟨by first | rfl | (simp; done) | (simp [*]; done), by repeat (first | exact Drawn0.refl _ | apply Drawn0.step)⟩
  · rw [if_neg c3] at H
    have c3b0 : ((l0.length : Int) == (l1.length : Int)) = false := beq_eq_false_iff_ne.mpr c3
    have c3b1 : ((l0.length : Int) != (l1.length : Int)) = true := bne_iff_ne.mpr c3
    have c3b2 : (l0.length == l1.length) = false := by first | simpa using c3 | (simp at c3 ⊢; omega)
    obtain rfl := Option.some.inj H
    go_enter Try.func13, Try.ntmps13
    go_wp2
    repeat (go_quiet (fail); try go_wp2)
    go_ret
    exact ⟨by first | rfl | (simp; done) | (simp [*]; done), by repeat (first | exact Drawn0.refl _ | apply Drawn0.step)⟩

end Go.Proofs.Ytbkmohnmciojpaa.P

-- YtbkmohnmciojpaaF11
namespace Go.Proofs.Ytbkmohnmciojpaa.P
open Go.RowKit Go.Proofs.YtbkmohnmciojpaaW.PrintWords Go.Proofs.YtbkmohnmciojpaaW.PrintLast Go.Proofs.YtbkmohnmciojpaaW.PrintMore
attribute [local go_sem] max2_int min2_int max_two min_two max_three min_three max_four min_four   -- for this text's walks alone
set_option linter.unusedVariables false
set_option linter.unusedSimpArgs false

/-! ### perigeelaw7_awake: function 9 -/
def perigeelaw7_awake.f (k : Nat)  : Option (Bool) := (telemetry_Squeezed.f k (([7, 7, 7, 7, 6] : List Int))).bind fun bt179 => (if bt179.2 = 0 then ((slices_Equal_byte_byte.f k bt179.1 (([0, 5, 14, 128, 0, 3, 1] : List Int))).bind fun t186 => (some t186)) else (some false))
theorem perigeelaw7_awake.mono : ∀ k, LeO (perigeelaw7_awake.f k ) (perigeelaw7_awake.f (k + 1) ) := by
  intro  k
  unfold perigeelaw7_awake.f
  repeat' first
      | (with_reducible exact slices_Equal_byte_byte.mono _ _ _)
      | (with_reducible exact telemetry_Squeezed.mono _ _)
      | (with_reducible exact LeO.refl _)
      | (with_reducible exact LeO.none _)
      | (with_reducible refine LeO.ite ?_ ?_)
      | (with_reducible refine LeO.bind ?_ (fun _ => ?_))
      | exact slices_Equal_byte_byte.mono _ _ _
      | exact telemetry_Squeezed.mono _ _
      | exact LeO.none _
      | refine LeO.ite ?_ ?_
      | refine LeO.bind ?_ (fun _ => ?_)
set_option maxHeartbeats 8000000 in
set_option maxRecDepth 100000 in
theorem perigeelaw7_awake.calls (k : Nat)  (r : Bool) (w : World) (h : perigeelaw7_awake.f k  = some r) :
    Calls Try.prog 9 #[] w fun e w' => e = .returned (.bool r) ∧ Below w.heap.size w w' := by
  have HB := Aside0.mk (Below.refl w.heap.size w)
  have H : ((telemetry_Squeezed.f k (([7, 7, 7, 7, 6] : List Int))).bind fun bt179 => (if bt179.2 = 0 then ((slices_Equal_byte_byte.f k bt179.1 (([0, 5, 14, 128, 0, 3, 1] : List Int))).bind fun t186 => (some t186)) else (some false))) = some r := h
  clear h
  obtain ⟨y176, hy176⟩ : ∃ y_ : List Int, y_ = (([7, 7, 7, 7, 6] : List Int)) := ⟨_, rfl⟩
  replace H : ((telemetry_Squeezed.f k y176).bind fun bt179 => (if bt179.2 = 0 then ((slices_Equal_byte_byte.f k bt179.1 (([0, 5, 14, 128, 0, 3, 1] : List Int))).bind fun t186 => (some t186)) else (some false))) = some r := by first | (rw [hy176]; with_reducible exact H) | (have H2_ := (Option.bind_some _ _).symm.trans H; rw [hy176]; with_reducible exact H2_) | (have H2_ := (Option.bind_some _ _).symm.trans H; with_reducible exact H2_) | with_reducible exact H | (rw [hy176]; exact H) | exact H
  have Ny176 := Aside0.mk hy176
  clear hy176
  replace H := Option.bind_eq_some_iff.mp H
  obtain ⟨⟨t179, t180⟩, A10, H⟩ := H
  replace H : (if t180 = 0 then ((slices_Equal_byte_byte.f k t179 (([0, 5, 14, 128, 0, 3, 1] : List Int))).bind fun t186 => (some t186)) else (some false)) = some r := H
  have A1 := Aside0.mk A10
  clear A10
  by_cases c2 : t180 = 0
  · rw [if_pos c2] at H
    have c2b0 : (t180 == 0) = true := beq_iff_eq.mpr c2
    have c2b1 : (t180 != 0) = false := bne_eq_false_iff_eq.mpr c2
    clear c2
    obtain ⟨y183, hy183⟩ : ∃ y_ : List Int, y_ = (([0, 5, 14, 128, 0, 3, 1] : List Int)) := ⟨_, rfl⟩
    replace H : ((slices_Equal_byte_byte.f k t179 y183).bind fun t186 => (some t186)) = some r := by first | (rw [hy183]; with_reducible exact H) | (have H2_ := (Option.bind_some _ _).symm.trans H; rw [hy183]; with_reducible exact H2_) | (have H2_ := (Option.bind_some _ _).symm.trans H; with_reducible exact H2_) | with_reducible exact H | (rw [hy183]; exact H) | exact H
    have Ny183 := Aside0.mk hy183
    clear hy183
    replace H := Option.bind_eq_some_iff.mp H
    obtain ⟨t186, A30, H⟩ := H
    replace H : (some t186) = some r := H
    have A3 := Aside0.mk A30
    clear A30
    obtain rfl := Option.some.inj H
    go_enter Try.func9, Try.ntmps9
    go_wp2_with (first | ((with_reducible refine gate_dst (N := 4) rfl ?_); (try (refine gate_guard (by rfl) ?_; dsimp only)); refine Kd.R_lit (Kd.int .i64) _ 3 ?hg (N := 4) ?hd (xs := ([7, 7, 7, 7, 6] : List Int)) (inner := [.int .i64 7, .int .i64 7, .int .i64 7, .int .i64 7, .int .i64 6]) (ok := fun _ => True) (okp := fun _ => True) ?hr ?hp (fun _ hk => hk) trivial (Below.refl _ _) (Nat.le_refl _) (by simp) ?_; (case hd => rfl); (case hg => rfl); (case hr => first | (go_simp; done) | (go_simp; rfl)); (case hp => exact (Reps.one (show Kd.M (Kd.int .i64) _ _ _ 7 [.int .i64 7] from rfl) (Reps.one (show Kd.M (Kd.int .i64) _ _ _ 7 [.int .i64 7] from rfl) (Reps.one (show Kd.M (Kd.int .i64) _ _ _ 7 [.int .i64 7] from rfl) (Reps.one (show Kd.M (Kd.int .i64) _ _ _ 7 [.int .i64 7] from rfl) (Reps.one (show Kd.M (Kd.int .i64) _ _ _ 6 [.int .i64 6] from rfl) (Reps.none _ _))))))); intro v177 w4 ho5 hb hg_ hnew_; clear hg_ hnew_; (first | rw [← Ny176.out] at ho5 | (simp only [Int.reduceToNat] at ho5; rw [← Ny176.out] at ho5)); have n0_ := Aside0.mk (Kd.R_lower ho5 (below_size (by repeat (first | (with_reducible first | exact HB.out | apply below_alloc | apply pw_below_drewN | apply below_drew1) | exact HB.out)))); have n1_ := Aside0.mk (below_step (by repeat (first | (with_reducible first | exact HB.out | apply below_alloc | apply pw_below_drewN | apply below_drew1) | exact HB.out)) hb); clear HB; have HO178 := n0_; have HB := n1_; clear n0_ n1_; clear hb ho5; obtain ⟨Ao6, co6, eo6⟩ := Kd.R_slice HO178.out; subst eo6) | ((with_reducible refine gate_callee (f := 10) rfl ?_); refine goesL_ (some 5) rfl rfl Try.func10 (by kernel_rfl) rfl #[.slice Ao6 y176.length co6] rfl (by (try simp only [List.map_toArray, List.map_cons, List.map_nil]); first | done | rfl | (simp only [List.length_drop, List.length_take]; rfl)) ?_; (with_reducible refine (telemetry_Squeezed.calls k _ _ y176 t179 t180 _ ?side1 ?side2 A1.out).mono ?_); (case side1 => repeat (first | exact (Kd.R_reads' HO178.out).2.2 | (with_reducible refine Kd.C_alloc ?_ _) | (with_reducible refine Kd.C_drewN ?_ _) | (with_reducible refine Kd.C_drew ?_))); (case side2 => exact (Kd.R_reads' HO178.out).2.1); rintro e w7 ⟨v181, rfl, ho0, hb⟩; refine ⟨_, rfl, ?_⟩; have n0_ := Aside0.mk (Kd.R_below (by (with_reducible repeat (first | apply Kd.R_alloc | apply Kd.R_drewN | apply Kd.R_drew)); exact HO178.out) hb); have n1_ := Aside0.mk (Kd.R_lower ho0 (below_size (by repeat (first | (with_reducible first | exact HB.out | apply below_alloc | apply pw_below_drewN | apply below_drew1) | exact HB.out)))); have n2_ := Aside0.mk (below_step (by repeat (first | (with_reducible first | exact HB.out | apply below_alloc | apply pw_below_drewN | apply below_drew1) | exact HB.out)) hb); clear HO178; clear HB; have HO178 := n0_; have HO182 := n1_; have HB := n2_; clear n0_ n1_ n2_; (try clear hb); (try clear hb2); (try clear hk); (try clear hi); (try clear ho0)) | ((with_reducible refine gate_dst (N := 12) rfl ?_); (try (refine gate_guard (by rfl) ?_; dsimp only)); refine Kd.R_lit (Kd.int .u8) _ 5 ?hg (N := 12) ?hd (xs := ([0, 5, 14, 128, 0, 3, 1] : List Int)) (inner := [.int .u8 0, .int .u8 5, .int .u8 14, .int .u8 128, .int .u8 0, .int .u8 3, .int .u8 1]) (ok := fun _ => True) (okp := fun _ => True) ?hr ?hp (fun _ hk => hk) trivial (Below.refl _ _) (Nat.le_refl _) (by simp) ?_; (case hd => rfl); (case hg => rfl); (case hr => first | (go_simp; done) | (go_simp; rfl)); (case hp => exact (Reps.one (show Kd.M (Kd.int .u8) _ _ _ 0 [.int .u8 0] from rfl) (Reps.one (show Kd.M (Kd.int .u8) _ _ _ 5 [.int .u8 5] from rfl) (Reps.one (show Kd.M (Kd.int .u8) _ _ _ 14 [.int .u8 14] from rfl) (Reps.one (show Kd.M (Kd.int .u8) _ _ _ 128 [.int .u8 128] from rfl) (Reps.one (show Kd.M (Kd.int .u8) _ _ _ 0 [.int .u8 0] from rfl) (Reps.one (show Kd.M (Kd.int .u8) _ _ _ 3 [.int .u8 3] from rfl) (Reps.one (show Kd.M (Kd.int .u8) _ _ _ 1 [.int .u8 1] from rfl) (Reps.none _ _))))))))); intro v184 w8 ho9 hb hg_ hnew_; clear hg_ hnew_; (first | rw [← Ny183.out] at ho9 | (simp only [Int.reduceToNat] at ho9; rw [← Ny183.out] at ho9)); have n0_ := Aside0.mk (Kd.R_below (by (with_reducible repeat (first | apply Kd.R_alloc | apply Kd.R_drewN | apply Kd.R_drew)); exact HO178.out) hb); have n1_ := Aside0.mk (Kd.R_elder' (by (with_reducible repeat (first | apply Kd.R_alloc | apply Kd.R_drewN | apply Kd.R_drew)); exact HO182.out) (Kd.R_base ho9) hb); have n2_ := Aside0.mk (Kd.R_lower (Kd.R_new' ho9 (Kd.R_lt (by (with_reducible repeat (first | apply Kd.R_alloc | apply Kd.R_drewN | apply Kd.R_drew)); exact HO182.out))) (below_size (by repeat (first | (with_reducible first | exact HB.out | apply below_alloc | apply pw_below_drewN | apply below_drew1) | exact HB.out)))); have n3_ := Aside0.mk (below_step (by repeat (first | (with_reducible first | exact HB.out | apply below_alloc | apply pw_below_drewN | apply below_drew1) | exact HB.out)) hb); clear HO178; clear HO182; clear HB; have HO178 := n0_; have HO182 := n1_; have HO185 := n2_; have HB := n3_; clear n0_ n1_ n2_ n3_; clear hb ho9; obtain ⟨Ao10, co10, eo10⟩ := Kd.R_slice HO182.out; subst eo10; obtain ⟨Ao11, co11, eo11⟩ := Kd.R_slice HO185.out; subst eo11) | (go_at_call 13; (with_reducible refine (slices_Equal_byte_byte.calls k _ _ t179 _ _ y183 t186 _ ?side1 ?side2 ?side3 ?side4 A3.out).mono ?_); (case side1 => repeat (first | exact (Kd.R_reads' HO182.out).2.2 | (with_reducible refine Kd.C_alloc ?_ _) | (with_reducible refine Kd.C_drewN ?_ _) | (with_reducible refine Kd.C_drew ?_))); (case side2 => exact (Kd.R_reads' HO182.out).2.1); (case side3 => repeat (first | exact (Kd.R_reads' HO185.out).2.2 | (with_reducible refine Kd.C_alloc ?_ _) | (with_reducible refine Kd.C_drewN ?_ _) | (with_reducible refine Kd.C_drew ?_))); (case side4 => exact (Kd.R_reads' HO185.out).2.1); rintro e w' ⟨rfl, ⟨nd, rfl⟩⟩))
    go_ret
    exact ⟨by first | rfl | (simp [errW_none, errW_some] <;> rfl) | (simp [*, errW_none, errW_some] <;> rfl), by repeat (first | (with_reducible first | exact HB.out | apply below_alloc | apply pw_below_drewN | apply below_drew1) | exact HB.out)⟩
  · rw [if_neg c2] at H
    have c2b0 : (t180 == 0) = false := beq_eq_false_iff_ne.mpr c2
    have c2b1 : (t180 != 0) = true := bne_iff_ne.mpr c2
    obtain rfl := Option.some.inj H
    go_enter Try.func9, Try.ntmps9
    go_wp2_with (first | ((with_reducible refine gate_dst (N := 4) rfl ?_); (try (refine gate_guard (by rfl) ?_; dsimp only)); refine Kd.R_lit (Kd.int .i64) _ 3 ?hg (N := 4) ?hd (xs := ([7, 7, 7, 7, 6] : List Int)) (inner := [.int .i64 7, .int .i64 7, .int .i64 7, .int .i64 7, .int .i64 6]) (ok := fun _ => True) (okp := fun _ => True) ?hr ?hp (fun _ hk => hk) trivial (Below.refl _ _) (Nat.le_refl _) (by simp) ?_; (case hd => rfl); (case hg => rfl); (case hr => first | (go_simp; done) | (go_simp; rfl)); (case hp => exact (Reps.one (show Kd.M (Kd.int .i64) _ _ _ 7 [.int .i64 7] from rfl) (Reps.one (show Kd.M (Kd.int .i64) _ _ _ 7 [.int .i64 7] from rfl) (Reps.one (show Kd.M (Kd.int .i64) _ _ _ 7 [.int .i64 7] from rfl) (Reps.one (show Kd.M (Kd.int .i64) _ _ _ 7 [.int .i64 7] from rfl) (Reps.one (show Kd.M (Kd.int .i64) _ _ _ 6 [.int .i64 6] from rfl) (Reps.none _ _))))))); intro v177 w12 ho13 hb hg_ hnew_; clear hg_ hnew_; (first | rw [← Ny176.out] at ho13 | (simp only [Int.reduceToNat] at ho13; rw [← Ny176.out] at ho13)); have n0_ := Aside0.mk (Kd.R_lower ho13 (below_size (by repeat (first | (with_reducible first | exact HB.out | apply below_alloc | apply pw_below_drewN | apply below_drew1) | exact HB.out)))); have n1_ := Aside0.mk (below_step (by repeat (first | (with_reducible first | exact HB.out | apply below_alloc | apply pw_below_drewN | apply below_drew1) | exact HB.out)) hb); clear HB; have HO178 := n0_; have HB := n1_; clear n0_ n1_; clear hb ho13; obtain ⟨Ao14, co14, eo14⟩ := Kd.R_slice HO178.out; subst eo14) | ((with_reducible refine gate_callee (f := 10) rfl ?_); refine goesL_ (some 5) rfl rfl Try.func10 (by kernel_rfl) rfl #[.slice Ao14 y176.length co14] rfl (by (try simp only [List.map_toArray, List.map_cons, List.map_nil]); first | done | rfl | (simp only [List.length_drop, List.length_take]; rfl)) ?_; (with_reducible refine (telemetry_Squeezed.calls k _ _ y176 t179 t180 _ ?side1 ?side2 A1.out).mono ?_); (case side1 => repeat (first | exact (Kd.R_reads' HO178.out).2.2 | (with_reducible refine Kd.C_alloc ?_ _) | (with_reducible refine Kd.C_drewN ?_ _) | (with_reducible refine Kd.C_drew ?_))); (case side2 => exact (Kd.R_reads' HO178.out).2.1); rintro e w15 ⟨v181, rfl, ho0, hb⟩; refine ⟨_, rfl, ?_⟩; have n0_ := Aside0.mk (Kd.R_below (by (with_reducible repeat (first | apply Kd.R_alloc | apply Kd.R_drewN | apply Kd.R_drew)); exact HO178.out) hb); have n1_ := Aside0.mk (Kd.R_lower ho0 (below_size (by repeat (first | (with_reducible first | exact HB.out | apply below_alloc | apply pw_below_drewN | apply below_drew1) | exact HB.out)))); have n2_ := Aside0.mk (below_step (by repeat (first | (with_reducible first | exact HB.out | apply below_alloc | apply pw_below_drewN | apply below_drew1) | exact HB.out)) hb); clear HO178; clear HB; have HO178 := n0_; have HO182 := n1_; have HB := n2_; clear n0_ n1_ n2_; (try clear hb); (try clear hb2); (try clear hk); (try clear hi); (try clear ho0)))
    go_ret
    exact ⟨by first | rfl | (simp [errW_none, errW_some] <;> rfl) | (simp [*, errW_none, errW_some] <;> rfl), by repeat (first | (with_reducible first | exact HB.out | apply below_alloc | apply pw_below_drewN | apply below_drew1) | exact HB.out)⟩

end Go.Proofs.Ytbkmohnmciojpaa.P

-- YtbkmohnmciojpaaF12
namespace Go.Proofs.Ytbkmohnmciojpaa.P
open Go.RowKit Go.Proofs.YtbkmohnmciojpaaW.PrintWords Go.Proofs.YtbkmohnmciojpaaW.PrintLast Go.Proofs.YtbkmohnmciojpaaW.PrintMore
attribute [local go_sem] max2_int min2_int max_two min_two max_three min_three max_four min_four   -- for this text's walks alone
set_option linter.unusedVariables false
set_option linter.unusedSimpArgs false

/-! ### perigeelaw7_TelemetryThinnedIsNear: function 3 -/
mutual
def perigeelaw7_TelemetryThinnedIsNear.j0 : Nat → List (S28) → Int → List (S28) → Int → Bool → Option (Bool)
  | 0, _, _, _, _, _ => none
  | k + 1, x0, x1, x5, x6, x37 => if x37 = true then (some false) else (perigeelaw7_TelemetryThinnedIsNear.l0 k x1 x5 x6 0 x0 (x0.length : Int) 0)
def perigeelaw7_TelemetryThinnedIsNear.l0 : Nat → Int → List (S28) → Int → Int → List (S28) → Int → Int → Option (Bool)
  | 0, _, _, _, _, _, _, _ => none
  | k + 1, x1, x5, x6, x9, x38, x39, x40 => if x40 < x39 then (if 0 ≤ x40 then (if x40 < (x38.length : Int) then (if x6 = 0 then (perigeelaw7_TelemetryThinnedIsNear.l1 k x1 x5 x6 x9 x38 x39 x40 ((rd_T28 x38 x40).f0) ((rd_T28 x38 x40).f1)) else (some true)) else (none)) else (none)) else (some true)
def perigeelaw7_TelemetryThinnedIsNear.l1 : Nat → Int → List (S28) → Int → Int → List (S28) → Int → Int → Int → Int → Option (Bool)
  | 0, _, _, _, _, _, _, _, _, _ => none
  | k + 1, x1, x5, x6, x9, x38, x39, x40, x199000, x199001 => if (wrap64 (x9 + 1)) < (x5.length : Int) then (if 0 ≤ (wrap64 (x9 + 1)) then (if ((rd_T28 x5 (wrap64 (x9 + 1))).f0) ≤ x199000 then (perigeelaw7_TelemetryThinnedIsNear.l1 k x1 x5 x6 (wrap64 (x9 + 1)) x38 x39 x40 x199000 x199001) else (if 0 ≤ x9 then (if x9 < (x5.length : Int) then (if (wrap64 (x199001 - ((rd_T28 x5 x9).f1))) > x1 then (some false) else (if (wrap64 (-(wrap64 (x199001 - ((rd_T28 x5 x9).f1))))) > x1 then (some false) else (perigeelaw7_TelemetryThinnedIsNear.l0 k x1 x5 x6 x9 x38 x39 (wrap64 (x40 + 1))))) else (none)) else (none))) else (none)) else (if 0 ≤ x9 then (if x9 < (x5.length : Int) then (if (wrap64 (x199001 - ((rd_T28 x5 x9).f1))) > x1 then (some false) else (if (wrap64 (-(wrap64 (x199001 - ((rd_T28 x5 x9).f1))))) > x1 then (some false) else (perigeelaw7_TelemetryThinnedIsNear.l0 k x1 x5 x6 x9 x38 x39 (wrap64 (x40 + 1))))) else (none)) else (none))
end
def perigeelaw7_TelemetryThinnedIsNear.f (k : Nat) (l0 : List (S28)) (a1 : Int) : Option (Bool) := (telemetry_Thinned.f k l0 a1).bind fun bt187 => ((perigeeref7_Thinned.f k l0 a1).bind fun bt191 => (if bt187.2 = bt191.2 then ((api_Moment.f k bt187.1 bt191.1).bind fun t195 => (if t195 = true then ((perigeelaw7_awake.f k).bind fun t196 => (perigeelaw7_TelemetryThinnedIsNear.j0 k l0 a1 bt187.1 bt187.2 (!t196))) else (perigeelaw7_TelemetryThinnedIsNear.j0 k l0 a1 bt187.1 bt187.2 true))) else (perigeelaw7_TelemetryThinnedIsNear.j0 k l0 a1 bt187.1 bt187.2 true)))
theorem perigeelaw7_TelemetryThinnedIsNear.mono_l : ∀ k, (∀ y0 y1 y2 y3 y4, LeO (perigeelaw7_TelemetryThinnedIsNear.j0 k y0 y1 y2 y3 y4) (perigeelaw7_TelemetryThinnedIsNear.j0 (k + 1) y0 y1 y2 y3 y4)) ∧ (∀ y0 y1 y2 y3 y4 y5 y6, LeO (perigeelaw7_TelemetryThinnedIsNear.l0 k y0 y1 y2 y3 y4 y5 y6) (perigeelaw7_TelemetryThinnedIsNear.l0 (k + 1) y0 y1 y2 y3 y4 y5 y6)) ∧ (∀ y0 y1 y2 y3 y4 y5 y6 y7 y8, LeO (perigeelaw7_TelemetryThinnedIsNear.l1 k y0 y1 y2 y3 y4 y5 y6 y7 y8) (perigeelaw7_TelemetryThinnedIsNear.l1 (k + 1) y0 y1 y2 y3 y4 y5 y6 y7 y8))
  | 0 => ⟨fun _ _ _ _ _ r h => by simp [perigeelaw7_TelemetryThinnedIsNear.j0] at h, fun _ _ _ _ _ _ _ r h => by simp [perigeelaw7_TelemetryThinnedIsNear.l0] at h, fun _ _ _ _ _ _ _ _ _ r h => by simp [perigeelaw7_TelemetryThinnedIsNear.l1] at h⟩
  | k + 1 => by
    obtain ⟨ih0, ih1, ih2⟩ := perigeelaw7_TelemetryThinnedIsNear.mono_l k
    refine ⟨?_, ?_, ?_⟩
    · intro y0 y1 y2 y3 y4
      unfold perigeelaw7_TelemetryThinnedIsNear.j0
      repeat' first
      | (with_reducible exact ih0 _ _ _ _ _)
      | (with_reducible exact ih1 _ _ _ _ _ _ _)
      | (with_reducible exact ih2 _ _ _ _ _ _ _ _ _)
      | (with_reducible exact api_Moment.mono _ _ _)
      | (with_reducible exact perigeelaw7_awake.mono _)
      | (with_reducible exact perigeeref7_Thinned.mono _ _ _)
      | (with_reducible exact telemetry_Thinned.mono _ _ _)
      | (with_reducible exact LeO.refl _)
      | (with_reducible exact LeO.none _)
      | (with_reducible refine LeO.ite ?_ ?_)
      | (with_reducible refine LeO.bind ?_ (fun _ => ?_))
      | exact ih0 _ _ _ _ _
      | exact ih1 _ _ _ _ _ _ _
      | exact ih2 _ _ _ _ _ _ _ _ _
      | exact api_Moment.mono _ _ _
      | exact perigeelaw7_awake.mono _
      | exact perigeeref7_Thinned.mono _ _ _
      | exact telemetry_Thinned.mono _ _ _
      | exact LeO.none _
      | refine LeO.ite ?_ ?_
      | refine LeO.bind ?_ (fun _ => ?_)
    · intro y0 y1 y2 y3 y4 y5 y6
      unfold perigeelaw7_TelemetryThinnedIsNear.l0
      repeat' first
      | (with_reducible exact ih0 _ _ _ _ _)
      | (with_reducible exact ih1 _ _ _ _ _ _ _)
      | (with_reducible exact ih2 _ _ _ _ _ _ _ _ _)
      | (with_reducible exact api_Moment.mono _ _ _)
      | (with_reducible exact perigeelaw7_awake.mono _)
      | (with_reducible exact perigeeref7_Thinned.mono _ _ _)
      | (with_reducible exact telemetry_Thinned.mono _ _ _)
      | (with_reducible exact LeO.refl _)
      | (with_reducible exact LeO.none _)
      | (with_reducible refine LeO.ite ?_ ?_)
      | (with_reducible refine LeO.bind ?_ (fun _ => ?_))
      | exact ih0 _ _ _ _ _
      | exact ih1 _ _ _ _ _ _ _
      | exact ih2 _ _ _ _ _ _ _ _ _
      | exact api_Moment.mono _ _ _
      | exact perigeelaw7_awake.mono _
      | exact perigeeref7_Thinned.mono _ _ _
      | exact telemetry_Thinned.mono _ _ _
      | exact LeO.none _
      | refine LeO.ite ?_ ?_
      | refine LeO.bind ?_ (fun _ => ?_)
    · intro y0 y1 y2 y3 y4 y5 y6 y7 y8
      unfold perigeelaw7_TelemetryThinnedIsNear.l1
      repeat' first
      | (with_reducible exact ih0 _ _ _ _ _)
      | (with_reducible exact ih1 _ _ _ _ _ _ _)
      | (with_reducible exact ih2 _ _ _ _ _ _ _ _ _)
      | (with_reducible exact api_Moment.mono _ _ _)
      | (with_reducible exact perigeelaw7_awake.mono _)
      | (with_reducible exact perigeeref7_Thinned.mono _ _ _)
      | (with_reducible exact telemetry_Thinned.mono _ _ _)
      | (with_reducible exact LeO.refl _)
      | (with_reducible exact LeO.none _)
      | (with_reducible refine LeO.ite ?_ ?_)
      | (with_reducible refine LeO.bind ?_ (fun _ => ?_))
      | exact ih0 _ _ _ _ _
      | exact ih1 _ _ _ _ _ _ _
      | exact ih2 _ _ _ _ _ _ _ _ _
      | exact api_Moment.mono _ _ _
      | exact perigeelaw7_awake.mono _
      | exact perigeeref7_Thinned.mono _ _ _
      | exact telemetry_Thinned.mono _ _ _
      | exact LeO.none _
      | refine LeO.ite ?_ ?_
      | refine LeO.bind ?_ (fun _ => ?_)
theorem perigeelaw7_TelemetryThinnedIsNear.mono : ∀ a0 a1 k, LeO (perigeelaw7_TelemetryThinnedIsNear.f k a0 a1) (perigeelaw7_TelemetryThinnedIsNear.f (k + 1) a0 a1) := by
  intro a0 a1 k
  obtain ⟨ih0, ih1, ih2⟩ := perigeelaw7_TelemetryThinnedIsNear.mono_l k
  unfold perigeelaw7_TelemetryThinnedIsNear.f
  repeat' first
      | (with_reducible exact ih0 _ _ _ _ _)
      | (with_reducible exact ih1 _ _ _ _ _ _ _)
      | (with_reducible exact ih2 _ _ _ _ _ _ _ _ _)
      | (with_reducible exact api_Moment.mono _ _ _)
      | (with_reducible exact perigeelaw7_awake.mono _)
      | (with_reducible exact perigeeref7_Thinned.mono _ _ _)
      | (with_reducible exact telemetry_Thinned.mono _ _ _)
      | (with_reducible exact LeO.refl _)
      | (with_reducible exact LeO.none _)
      | (with_reducible refine LeO.ite ?_ ?_)
      | (with_reducible refine LeO.bind ?_ (fun _ => ?_))
      | exact ih0 _ _ _ _ _
      | exact ih1 _ _ _ _ _ _ _
      | exact ih2 _ _ _ _ _ _ _ _ _
      | exact api_Moment.mono _ _ _
      | exact perigeelaw7_awake.mono _
      | exact perigeeref7_Thinned.mono _ _ _
      | exact telemetry_Thinned.mono _ _ _
      | exact LeO.none _
      | refine LeO.ite ?_ ?_
      | refine LeO.bind ?_ (fun _ => ?_)
set_option maxHeartbeats 8000000 in
set_option maxRecDepth 100000 in
theorem perigeelaw7_TelemetryThinnedIsNear.calls (k : Nat) (A0 : Option Addr) (c0 : Nat) (l0 : List (S28)) (a1 : Int) (r : Bool) (w : World) (hr0 : Kd.C k28 w A0 l0.length l0) (hc0 : l0.length ≤ c0) (h : perigeelaw7_TelemetryThinnedIsNear.f k l0 a1 = some r) :
    Calls Try.prog 3 #[.slice A0 l0.length c0, .int .i64 a1] w fun e w' => e = .returned (.bool r) ∧ Below w.heap.size w w' := by
  have hu28 := Try.underlying28
  have HR0 := Aside0.mk hr0
  have HC0 := Aside0.mk hc0
  clear hr0 hc0
  have HB := Aside0.mk (Below.refl w.heap.size w)
  have H : ((telemetry_Thinned.f k l0 a1).bind fun bt187 => ((perigeeref7_Thinned.f k l0 a1).bind fun bt191 => (if bt187.2 = bt191.2 then ((api_Moment.f k bt187.1 bt191.1).bind fun t195 => (if t195 = true then ((perigeelaw7_awake.f k).bind fun t196 => (perigeelaw7_TelemetryThinnedIsNear.j0 k l0 a1 bt187.1 bt187.2 (!t196))) else (perigeelaw7_TelemetryThinnedIsNear.j0 k l0 a1 bt187.1 bt187.2 true))) else (perigeelaw7_TelemetryThinnedIsNear.j0 k l0 a1 bt187.1 bt187.2 true)))) = some r := h
  clear h
  replace H := Option.bind_eq_some_iff.mp H
  obtain ⟨⟨t187, t188⟩, A30, H⟩ := H
  replace H : ((perigeeref7_Thinned.f k l0 a1).bind fun bt191 => (if t188 = bt191.2 then ((api_Moment.f k t187 bt191.1).bind fun t195 => (if t195 = true then ((perigeelaw7_awake.f k).bind fun t196 => (perigeelaw7_TelemetryThinnedIsNear.j0 k l0 a1 t187 t188 (!t196))) else (perigeelaw7_TelemetryThinnedIsNear.j0 k l0 a1 t187 t188 true))) else (perigeelaw7_TelemetryThinnedIsNear.j0 k l0 a1 t187 t188 true))) = some r := H
  have A3 := Aside0.mk A30
  clear A30
  replace H := Option.bind_eq_some_iff.mp H
  obtain ⟨⟨t191, t192⟩, A40, H⟩ := H
  replace H : (if t188 = t192 then ((api_Moment.f k t187 t191).bind fun t195 => (if t195 = true then ((perigeelaw7_awake.f k).bind fun t196 => (perigeelaw7_TelemetryThinnedIsNear.j0 k l0 a1 t187 t188 (!t196))) else (perigeelaw7_TelemetryThinnedIsNear.j0 k l0 a1 t187 t188 true))) else (perigeelaw7_TelemetryThinnedIsNear.j0 k l0 a1 t187 t188 true)) = some r := H
  have A4 := Aside0.mk A40
  clear A40
  have HC5 := Aside0.mk H
  clear H
  go_enter Try.func3, Try.ntmps3
  go_upto_region 3 with (first | (go_at_call 6; (with_reducible refine (telemetry_Thinned.calls k _ _ l0 a1 t187 t188 _ ?side1 ?side2 A3.out).mono ?_); (case side1 => repeat (first | exact HR0.out | (with_reducible refine Kd.C_alloc ?_ _) | (with_reducible refine Kd.C_drewN ?_ _) | (with_reducible refine Kd.C_drew ?_))); (case side2 => exact HC0.out); rintro e w6 ⟨v189, rfl, ho0, hb⟩; have n0_ := Aside0.mk (Kd.R_lower ho0 (below_size (by repeat (first | (with_reducible first | exact HB.out | apply below_alloc | apply pw_below_drewN | apply below_drew1) | exact HB.out)))); have n1_ := Aside0.mk (below_step (by repeat (first | (with_reducible first | exact HB.out | apply below_alloc | apply pw_below_drewN | apply below_drew1) | exact HB.out)) hb); clear HB; have HO190 := n0_; have HB := n1_; clear n0_ n1_; (try clear hb); (try clear hb2); (try clear hk); (try clear hi); (try clear ho0)) | (go_at_call 7; (with_reducible refine (perigeeref7_Thinned.calls k _ _ l0 a1 t191 t192 _ ?side1 ?side2 A4.out).mono ?_); (case side1 => repeat (first | exact (Kd.C_below HR0.out HB.out) | (with_reducible refine Kd.C_alloc ?_ _) | (with_reducible refine Kd.C_drewN ?_ _) | (with_reducible refine Kd.C_drew ?_))); (case side2 => exact HC0.out); rintro e w7 ⟨v193, rfl, ho0, hb⟩; have n0_ := Aside0.mk (Kd.R_elder' (by (with_reducible repeat (first | apply Kd.R_alloc | apply Kd.R_drewN | apply Kd.R_drew)); exact HO190.out) (Kd.R_base ho0) hb); have n1_ := Aside0.mk (Kd.R_lower (Kd.R_new' ho0 (Kd.R_lt (by (with_reducible repeat (first | apply Kd.R_alloc | apply Kd.R_drewN | apply Kd.R_drew)); exact HO190.out))) (below_size (by repeat (first | (with_reducible first | exact HB.out | apply below_alloc | apply pw_below_drewN | apply below_drew1) | exact HB.out)))); have n2_ := Aside0.mk (below_step (by repeat (first | (with_reducible first | exact HB.out | apply below_alloc | apply pw_below_drewN | apply below_drew1) | exact HB.out)) hb); clear HO190; clear HB; have HO190 := n0_; have HO194 := n1_; have HB := n2_; clear n0_ n1_ n2_; (try clear hb); (try clear hb2); (try clear hk); (try clear hi); (try clear ho0)))
  repeat (go_quiet (first | (go_at_call 6; (with_reducible refine (telemetry_Thinned.calls k _ _ l0 a1 t187 t188 _ ?side1 ?side2 A3.out).mono ?_); (case side1 => repeat (first | exact HR0.out | (with_reducible refine Kd.C_alloc ?_ _) | (with_reducible refine Kd.C_drewN ?_ _) | (with_reducible refine Kd.C_drew ?_))); (case side2 => exact HC0.out); rintro e w6 ⟨v189, rfl, ho0, hb⟩; have n0_ := Aside0.mk (Kd.R_lower ho0 (below_size (by repeat (first | (with_reducible first | exact HB.out | apply below_alloc | apply pw_below_drewN | apply below_drew1) | exact HB.out)))); have n1_ := Aside0.mk (below_step (by repeat (first | (with_reducible first | exact HB.out | apply below_alloc | apply pw_below_drewN | apply below_drew1) | exact HB.out)) hb); clear HB; have HO190 := n0_; have HB := n1_; clear n0_ n1_; (try clear hb); (try clear hb2); (try clear hk); (try clear hi); (try clear ho0)) | (go_at_call 7; (with_reducible refine (perigeeref7_Thinned.calls k _ _ l0 a1 t191 t192 _ ?side1 ?side2 A4.out).mono ?_); (case side1 => repeat (first | exact (Kd.C_below HR0.out HB.out) | (with_reducible refine Kd.C_alloc ?_ _) | (with_reducible refine Kd.C_drewN ?_ _) | (with_reducible refine Kd.C_drew ?_))); (case side2 => exact HC0.out); rintro e w7 ⟨v193, rfl, ho0, hb⟩; have n0_ := Aside0.mk (Kd.R_elder' (by (with_reducible repeat (first | apply Kd.R_alloc | apply Kd.R_drewN | apply Kd.R_drew)); exact HO190.out) (Kd.R_base ho0) hb); have n1_ := Aside0.mk (Kd.R_lower (Kd.R_new' ho0 (Kd.R_lt (by (with_reducible repeat (first | apply Kd.R_alloc | apply Kd.R_drewN | apply Kd.R_drew)); exact HO190.out))) (below_size (by repeat (first | (with_reducible first | exact HB.out | apply below_alloc | apply pw_below_drewN | apply below_drew1) | exact HB.out)))); have n2_ := Aside0.mk (below_step (by repeat (first | (with_reducible first | exact HB.out | apply below_alloc | apply pw_below_drewN | apply below_drew1) | exact HB.out)) hb); clear HO190; clear HB; have HO190 := n0_; have HO194 := n1_; have HB := n2_; clear n0_ n1_ n2_; (try clear hb); (try clear hb2); (try clear hk); (try clear hi); (try clear ho0))); go_upto_region 3 with (first | (go_at_call 6; (with_reducible refine (telemetry_Thinned.calls k _ _ l0 a1 t187 t188 _ ?side1 ?side2 A3.out).mono ?_); (case side1 => repeat (first | exact HR0.out | (with_reducible refine Kd.C_alloc ?_ _) | (with_reducible refine Kd.C_drewN ?_ _) | (with_reducible refine Kd.C_drew ?_))); (case side2 => exact HC0.out); rintro e w6 ⟨v189, rfl, ho0, hb⟩; have n0_ := Aside0.mk (Kd.R_lower ho0 (below_size (by repeat (first | (with_reducible first | exact HB.out | apply below_alloc | apply pw_below_drewN | apply below_drew1) | exact HB.out)))); have n1_ := Aside0.mk (below_step (by repeat (first | (with_reducible first | exact HB.out | apply below_alloc | apply pw_below_drewN | apply below_drew1) | exact HB.out)) hb); clear HB; have HO190 := n0_; have HB := n1_; clear n0_ n1_; (try clear hb); (try clear hb2); (try clear hk); (try clear hi); (try clear ho0)) | (go_at_call 7; (with_reducible refine (perigeeref7_Thinned.calls k _ _ l0 a1 t191 t192 _ ?side1 ?side2 A4.out).mono ?_); (case side1 => repeat (first | exact (Kd.C_below HR0.out HB.out) | (with_reducible refine Kd.C_alloc ?_ _) | (with_reducible refine Kd.C_drewN ?_ _) | (with_reducible refine Kd.C_drew ?_))); (case side2 => exact HC0.out); rintro e w7 ⟨v193, rfl, ho0, hb⟩; have n0_ := Aside0.mk (Kd.R_elder' (by (with_reducible repeat (first | apply Kd.R_alloc | apply Kd.R_drewN | apply Kd.R_drew)); exact HO190.out) (Kd.R_base ho0) hb); have n1_ := Aside0.mk (Kd.R_lower (Kd.R_new' ho0 (Kd.R_lt (by (with_reducible repeat (first | apply Kd.R_alloc | apply Kd.R_drewN | apply Kd.R_drew)); exact HO190.out))) (below_size (by repeat (first | (with_reducible first | exact HB.out | apply below_alloc | apply pw_below_drewN | apply below_drew1) | exact HB.out)))); have n2_ := Aside0.mk (below_step (by repeat (first | (with_reducible first | exact HB.out | apply below_alloc | apply pw_below_drewN | apply below_drew1) | exact HB.out)) hb); clear HO190; clear HB; have HO190 := n0_; have HO194 := n1_; have HB := n2_; clear n0_ n1_ n2_; (try clear hb); (try clear hb2); (try clear hk); (try clear hi); (try clear ho0))))
  (try simp only [Act.put, List.setIfInBounds_toArray, List.set_cons_zero, List.set_cons_succ])
  go_cut [37] (fun v37 wc => ∃ (kq : Nat) (x37_4 : Bool), v37 = .bool x37_4 ∧ Aside0 (perigeelaw7_TelemetryThinnedIsNear.j0 kq l0 a1 t187 t188 x37_4 = some r) ∧ Aside0 (kq ≤ k) ∧ Aside0 (Kd.R k28 28 wc w.heap.size (fun _ => True) v189 t187) ∧ Aside0 (Below w.heap.size w wc))
  case first =>
    have H := HC5.out
    clear HC5
    by_cases c8 : t188 = t192
    · rw [if_pos c8] at H
      have c8b0 : (t188 == t192) = true := beq_iff_eq.mpr c8
      have c8b1 : (t188 != t192) = false := bne_eq_false_iff_eq.mpr c8
      clear c8
      (first | rw [c8b0] | (simp only [i64_w, i32_w]; rw [c8b0]) | skip)
      replace H := Option.bind_eq_some_iff.mp H
      obtain ⟨t195, A90, H⟩ := H
      replace H : (if t195 = true then ((perigeelaw7_awake.f k).bind fun t196 => (perigeelaw7_TelemetryThinnedIsNear.j0 k l0 a1 t187 t188 (!t196))) else (perigeelaw7_TelemetryThinnedIsNear.j0 k l0 a1 t187 t188 true)) = some r := H
      have A9 := Aside0.mk A90
      clear A90
      by_cases c10 : t195 = true
      · subst c10
        have H1 : ((perigeelaw7_awake.f k).bind fun t196 => (perigeelaw7_TelemetryThinnedIsNear.j0 k l0 a1 t187 t188 (!t196))) = some r := by rw [if_pos rfl] at H; exact H
        clear H
        have H := H1
        clear H1
        replace H := Option.bind_eq_some_iff.mp H
        obtain ⟨t196, A110, H⟩ := H
        replace H : (perigeelaw7_TelemetryThinnedIsNear.j0 k l0 a1 t187 t188 (!t196)) = some r := H
        have A11 := Aside0.mk A110
        clear A110
        have H' := Aside0.mk H
        clear H
        obtain ⟨Ao12, co12, eo12⟩ := Kd.R_slice HO190.out
        subst eo12
        obtain ⟨Ao13, co13, eo13⟩ := Kd.R_slice HO194.out
        subst eo13
        go_wp2_with (first | (go_at_call 8; (with_reducible refine (api_Moment.calls k _ _ t187 _ _ t191 true _ ?side1 ?side2 ?side3 ?side4 A9.out).mono ?_); (case side1 => repeat (first | exact (Kd.R_reads' HO190.out).2.2 | (with_reducible refine Kd.C_alloc ?_ _) | (with_reducible refine Kd.C_drewN ?_ _) | (with_reducible refine Kd.C_drew ?_))); (case side2 => exact (Kd.R_reads' HO190.out).2.1); (case side3 => repeat (first | exact (Kd.R_reads' HO194.out).2.2 | (with_reducible refine Kd.C_alloc ?_ _) | (with_reducible refine Kd.C_drewN ?_ _) | (with_reducible refine Kd.C_drew ?_))); (case side4 => exact (Kd.R_reads' HO194.out).2.1); rintro e w' ⟨rfl, ⟨nd, rfl⟩⟩; (try first | exact ⟨rfl, _, World.drewN_drewN _ _ _⟩ | exact ⟨rfl, _, Eq.trans (World.drewN_drewN _ _ _) (congrArg (World.drewN _) (Nat.add_assoc _ _ _))⟩)) | (go_at_call 9; (with_reducible refine (perigeelaw7_awake.calls k  t196 _ A11.out).mono ?_); rintro e w14 ⟨rfl, hb⟩; have n0_ := Aside0.mk (Kd.R_below (by (with_reducible repeat (first | apply Kd.R_alloc | apply Kd.R_drewN | apply Kd.R_drew)); exact HO190.out) hb); have n1_ := Aside0.mk (Kd.R_below (by (with_reducible repeat (first | apply Kd.R_alloc | apply Kd.R_drewN | apply Kd.R_drew)); exact HO194.out) hb); have n2_ := Aside0.mk (below_step (by repeat (first | (with_reducible first | exact HB.out | apply below_alloc | apply pw_below_drewN | apply below_drew1) | exact HB.out)) hb); clear HO190; clear HO194; clear HB; have HO190 := n0_; have HO194 := n1_; have HB := n2_; clear n0_ n1_ n2_; (try clear hb); (try clear hb2); (try clear hk); (try clear hi)))
        repeat (go_quiet (first | (go_at_call 8; (with_reducible refine (api_Moment.calls k _ _ t187 _ _ t191 true _ ?side1 ?side2 ?side3 ?side4 A9.out).mono ?_); (case side1 => repeat (first | exact (Kd.R_reads' HO190.out).2.2 | (with_reducible refine Kd.C_alloc ?_ _) | (with_reducible refine Kd.C_drewN ?_ _) | (with_reducible refine Kd.C_drew ?_))); (case side2 => exact (Kd.R_reads' HO190.out).2.1); (case side3 => repeat (first | exact (Kd.R_reads' HO194.out).2.2 | (with_reducible refine Kd.C_alloc ?_ _) | (with_reducible refine Kd.C_drewN ?_ _) | (with_reducible refine Kd.C_drew ?_))); (case side4 => exact (Kd.R_reads' HO194.out).2.1); rintro e w' ⟨rfl, ⟨nd, rfl⟩⟩; (try first | exact ⟨rfl, _, World.drewN_drewN _ _ _⟩ | exact ⟨rfl, _, Eq.trans (World.drewN_drewN _ _ _) (congrArg (World.drewN _) (Nat.add_assoc _ _ _))⟩)) | (go_at_call 9; (with_reducible refine (perigeelaw7_awake.calls k  t196 _ A11.out).mono ?_); rintro e w14 ⟨rfl, hb⟩; have n0_ := Aside0.mk (Kd.R_below (by (with_reducible repeat (first | apply Kd.R_alloc | apply Kd.R_drewN | apply Kd.R_drew)); exact HO190.out) hb); have n1_ := Aside0.mk (Kd.R_below (by (with_reducible repeat (first | apply Kd.R_alloc | apply Kd.R_drewN | apply Kd.R_drew)); exact HO194.out) hb); have n2_ := Aside0.mk (below_step (by repeat (first | (with_reducible first | exact HB.out | apply below_alloc | apply pw_below_drewN | apply below_drew1) | exact HB.out)) hb); clear HO190; clear HO194; clear HB; have HO190 := n0_; have HO194 := n1_; have HB := n2_; clear n0_ n1_ n2_; (try clear hb); (try clear hb2); (try clear hk); (try clear hi))); try go_wp2_with (first | (go_at_call 8; (with_reducible refine (api_Moment.calls k _ _ t187 _ _ t191 true _ ?side1 ?side2 ?side3 ?side4 A9.out).mono ?_); (case side1 => repeat (first | exact (Kd.R_reads' HO190.out).2.2 | (with_reducible refine Kd.C_alloc ?_ _) | (with_reducible refine Kd.C_drewN ?_ _) | (with_reducible refine Kd.C_drew ?_))); (case side2 => exact (Kd.R_reads' HO190.out).2.1); (case side3 => repeat (first | exact (Kd.R_reads' HO194.out).2.2 | (with_reducible refine Kd.C_alloc ?_ _) | (with_reducible refine Kd.C_drewN ?_ _) | (with_reducible refine Kd.C_drew ?_))); (case side4 => exact (Kd.R_reads' HO194.out).2.1); rintro e w' ⟨rfl, ⟨nd, rfl⟩⟩; (try first | exact ⟨rfl, _, World.drewN_drewN _ _ _⟩ | exact ⟨rfl, _, Eq.trans (World.drewN_drewN _ _ _) (congrArg (World.drewN _) (Nat.add_assoc _ _ _))⟩)) | (go_at_call 9; (with_reducible refine (perigeelaw7_awake.calls k  t196 _ A11.out).mono ?_); rintro e w14 ⟨rfl, hb⟩; have n0_ := Aside0.mk (Kd.R_below (by (with_reducible repeat (first | apply Kd.R_alloc | apply Kd.R_drewN | apply Kd.R_drew)); exact HO190.out) hb); have n1_ := Aside0.mk (Kd.R_below (by (with_reducible repeat (first | apply Kd.R_alloc | apply Kd.R_drewN | apply Kd.R_drew)); exact HO194.out) hb); have n2_ := Aside0.mk (below_step (by repeat (first | (with_reducible first | exact HB.out | apply below_alloc | apply pw_below_drewN | apply below_drew1) | exact HB.out)) hb); clear HO190; clear HO194; clear HB; have HO190 := n0_; have HO194 := n1_; have HB := n2_; clear n0_ n1_ n2_; (try clear hb); (try clear hb2); (try clear hk); (try clear hi))))
        go_meet
        case rel => exact ⟨_, (!t196), (by first | rfl | (simp; done) | (simp [*]; done)), H', ⟨by first | omega | exact Nat.le_refl _⟩, ⟨by (with_reducible repeat (first | apply Kd.R_alloc | apply Kd.R_drewN | apply Kd.R_drew)); exact Kd.R_mono HO190.out (fun _ hk => trivial)⟩, ⟨by repeat (first | (with_reducible first | exact HB.out | apply below_alloc | apply pw_below_drewN | apply below_drew1) | exact HB.out)⟩⟩
      · replace c10 := Bool.eq_false_iff.mpr c10
        subst c10
        have H1 : (perigeelaw7_TelemetryThinnedIsNear.j0 k l0 a1 t187 t188 true) = some r := by rw [if_neg (show ¬ (false = true) by decide)] at H; exact H
        clear H
        have H := H1
        clear H1
        have H' := Aside0.mk H
        clear H
        obtain ⟨Ao15, co15, eo15⟩ := Kd.R_slice HO190.out
        subst eo15
        obtain ⟨Ao16, co16, eo16⟩ := Kd.R_slice HO194.out
        subst eo16
        go_wp2_with (first | (go_at_call 8; (with_reducible refine (api_Moment.calls k _ _ t187 _ _ t191 false _ ?side1 ?side2 ?side3 ?side4 A9.out).mono ?_); (case side1 => repeat (first | exact (Kd.R_reads' HO190.out).2.2 | (with_reducible refine Kd.C_alloc ?_ _) | (with_reducible refine Kd.C_drewN ?_ _) | (with_reducible refine Kd.C_drew ?_))); (case side2 => exact (Kd.R_reads' HO190.out).2.1); (case side3 => repeat (first | exact (Kd.R_reads' HO194.out).2.2 | (with_reducible refine Kd.C_alloc ?_ _) | (with_reducible refine Kd.C_drewN ?_ _) | (with_reducible refine Kd.C_drew ?_))); (case side4 => exact (Kd.R_reads' HO194.out).2.1); rintro e w' ⟨rfl, ⟨nd, rfl⟩⟩; (try first | exact ⟨rfl, _, World.drewN_drewN _ _ _⟩ | exact ⟨rfl, _, Eq.trans (World.drewN_drewN _ _ _) (congrArg (World.drewN _) (Nat.add_assoc _ _ _))⟩)))
        repeat (go_quiet (first | (go_at_call 8; (with_reducible refine (api_Moment.calls k _ _ t187 _ _ t191 false _ ?side1 ?side2 ?side3 ?side4 A9.out).mono ?_); (case side1 => repeat (first | exact (Kd.R_reads' HO190.out).2.2 | (with_reducible refine Kd.C_alloc ?_ _) | (with_reducible refine Kd.C_drewN ?_ _) | (with_reducible refine Kd.C_drew ?_))); (case side2 => exact (Kd.R_reads' HO190.out).2.1); (case side3 => repeat (first | exact (Kd.R_reads' HO194.out).2.2 | (with_reducible refine Kd.C_alloc ?_ _) | (with_reducible refine Kd.C_drewN ?_ _) | (with_reducible refine Kd.C_drew ?_))); (case side4 => exact (Kd.R_reads' HO194.out).2.1); rintro e w' ⟨rfl, ⟨nd, rfl⟩⟩; (try first | exact ⟨rfl, _, World.drewN_drewN _ _ _⟩ | exact ⟨rfl, _, Eq.trans (World.drewN_drewN _ _ _) (congrArg (World.drewN _) (Nat.add_assoc _ _ _))⟩))); try go_wp2_with (first | (go_at_call 8; (with_reducible refine (api_Moment.calls k _ _ t187 _ _ t191 false _ ?side1 ?side2 ?side3 ?side4 A9.out).mono ?_); (case side1 => repeat (first | exact (Kd.R_reads' HO190.out).2.2 | (with_reducible refine Kd.C_alloc ?_ _) | (with_reducible refine Kd.C_drewN ?_ _) | (with_reducible refine Kd.C_drew ?_))); (case side2 => exact (Kd.R_reads' HO190.out).2.1); (case side3 => repeat (first | exact (Kd.R_reads' HO194.out).2.2 | (with_reducible refine Kd.C_alloc ?_ _) | (with_reducible refine Kd.C_drewN ?_ _) | (with_reducible refine Kd.C_drew ?_))); (case side4 => exact (Kd.R_reads' HO194.out).2.1); rintro e w' ⟨rfl, ⟨nd, rfl⟩⟩; (try first | exact ⟨rfl, _, World.drewN_drewN _ _ _⟩ | exact ⟨rfl, _, Eq.trans (World.drewN_drewN _ _ _) (congrArg (World.drewN _) (Nat.add_assoc _ _ _))⟩))))
        go_meet
        case rel => exact ⟨_, (true), (by first | rfl | (simp; done) | (simp [*]; done)), H', ⟨by first | omega | exact Nat.le_refl _⟩, ⟨by (with_reducible repeat (first | apply Kd.R_alloc | apply Kd.R_drewN | apply Kd.R_drew)); exact Kd.R_mono HO190.out (fun _ hk => trivial)⟩, ⟨by repeat (first | (with_reducible first | exact HB.out | apply below_alloc | apply pw_below_drewN | apply below_drew1) | exact HB.out)⟩⟩
    · rw [if_neg c8] at H
      have c8b0 : (t188 == t192) = false := beq_eq_false_iff_ne.mpr c8
      have c8b1 : (t188 != t192) = true := bne_iff_ne.mpr c8
      (first | rw [c8b0] | (simp only [i64_w, i32_w]; rw [c8b0]) | skip)
      have H' := Aside0.mk H
      clear H
      go_wp2
      repeat (go_quiet (fail); try go_wp2)
      go_meet
      case rel => exact ⟨_, (true), (by first | rfl | (simp; done) | (simp [*]; done)), H', ⟨by first | omega | exact Nat.le_refl _⟩, ⟨by (with_reducible repeat (first | apply Kd.R_alloc | apply Kd.R_drewN | apply Kd.R_drew)); exact Kd.R_mono HO190.out (fun _ hk => trivial)⟩, ⟨by repeat (first | (with_reducible first | exact HB.out | apply below_alloc | apply pw_below_drewN | apply below_drew1) | exact HB.out)⟩⟩
  case rest =>
    clear HC5
    try clear c1
    try clear p2
    try clear c3
    try clear c8
    try clear c8b0
    try clear c8b1
    try clear c10
    obtain ⟨kq, x37_4, rfl, HA, HJ4, HO_5, HB⟩ := hcut
    cases kq with
    | zero => exact absurd HA.out (by simp [perigeelaw7_TelemetryThinnedIsNear.j0])
    | succ kj4 =>
      have H := HA.out
      clear HA
      simp only [perigeelaw7_TelemetryThinnedIsNear.j0] at H
      by_cases c17 : x37_4 = true
      · subst c17
        have H1 : (some false) = some r := by rw [if_pos rfl] at H; exact H
        clear H
        have H := H1
        clear H1
        obtain rfl := Option.some.inj H
        go_wp2
        repeat (go_quiet (fail); try go_wp2)
        go_ret
        exact ⟨by first | rfl | (simp [errW_none, errW_some] <;> rfl) | (simp [*, errW_none, errW_some] <;> rfl), by repeat (first | (with_reducible first | exact HB.out | apply below_alloc | apply pw_below_drewN | apply below_drew1) | exact HB.out)⟩
      · replace c17 := Bool.eq_false_iff.mpr c17
        subst c17
        have H1 : (perigeelaw7_TelemetryThinnedIsNear.l0 kj4 a1 t187 t188 0 l0 (l0.length : Int) 0) = some r := by rw [if_neg (show ¬ (false = true) by decide)] at H; exact H
        clear H
        have H := H1
        clear H1
        have H' := Aside0.mk H
        clear H
        go_wp2
        repeat (go_quiet (fail); try go_wp2)
        go_loopg [9, 40] kj4 (fun kq v9 v40 w' => ∃ (x9_2 : Int) (x40_2 : Int), v9 = .int .i64 x9_2 ∧ v40 = .int .i64 x40_2 ∧ Aside0 (perigeelaw7_TelemetryThinnedIsNear.l0 kq a1 t187 t188 x9_2 l0 (l0.length : Int) x40_2 = some r) ∧ Aside0 (kq ≤ kj4) ∧ Aside0 (Kd.R k28 28 w' w.heap.size (fun _ => True) v189 t187) ∧ Aside0 (Below w.heap.size w w'))
        case atStart => exact ⟨(0), (0), (by first | rfl | (simp; done) | (simp [*]; done)), (by first | rfl | (simp; done) | (simp [*]; done)), H', ⟨Nat.le_refl _⟩, ⟨by (with_reducible repeat (first | apply Kd.R_alloc | apply Kd.R_drewN | apply Kd.R_drew)); exact HO_5.out⟩, ⟨by repeat (first | (with_reducible first | exact HB.out | apply below_alloc | apply pw_below_drewN | apply below_drew1) | exact HB.out)⟩⟩
        case round =>
          clear H'
          try clear c1
          try clear p2
          try clear c3
          try clear c8
          try clear c8b0
          try clear c8b1
          try clear c10
          try clear c17
          try clear p2
          obtain ⟨x9_2, x40_2, rfl, rfl, HA, HK2, HO_5, HB⟩ := hrel
          cases gk with
          | zero => exact absurd HA.out (by simp [perigeelaw7_TelemetryThinnedIsNear.l0])
          | succ k2 =>
            have H := HA.out
            clear HA
            simp only [perigeelaw7_TelemetryThinnedIsNear.l0] at H
            by_cases c18 : x40_2 < (l0.length : Int)
            · rw [if_pos c18] at H
              have c18b0 : decide (x40_2 < (l0.length : Int)) = true := decide_eq_true c18
              clear c18
              by_cases c19 : 0 ≤ x40_2
              · rw [if_pos c19] at H
                have c19b0 : decide (0 ≤ x40_2) = true := decide_eq_true c19
                clear c19
                by_cases c20 : x40_2 < (l0.length : Int)
                · rw [if_pos c20] at H
                  have c20b0 : decide (x40_2 < (l0.length : Int)) = true := decide_eq_true c20
                  clear c20
                  by_cases c21 : t188 = 0
                  · rw [if_pos c21] at H
                    have c21b0 : (t188 == 0) = true := beq_iff_eq.mpr c21
                    have c21b1 : (t188 != 0) = false := bne_eq_false_iff_eq.mpr c21
                    clear c21
                    have H' := Aside0.mk H
                    clear H
                    have p197 : 0 ≤ (x40_2 : Int) := of_decide_eq_true (by first | (with_reducible assumption) | assumption)
                    have q197 : x40_2 < (l0.length : Int) := of_decide_eq_true (by first | (with_reducible assumption) | assumption)
                    obtain ⟨ad197, e197, hx197_0, hx197_1⟩ := at_T28 HR0.out x40_2 p197 q197
                    cases e197
                    replace hx197_0 := (HB.out.cell (World.block_lt_of_cell? w _ hx197_0)).trans hx197_0
                    replace hx197_1 := (HB.out.cell (World.block_lt_of_cell? w _ hx197_1)).trans hx197_1
                    replace p197 := eq_true p197
                    replace q197 := eq_true q197
                    go_wp2_with (first | ((with_reducible refine gate_dst (N := 11) rfl ?_); refine box_event ?hg (N := 11) ?hd (cs := #[.int .i64 0, .int .i64 0]) (t := 28) ?hr ?_; (case hd => rfl); (case hg => rfl); (case hr => first | (go_simp; done) | (go_simp; rfl)); intro gb198 hg w22 hbox hb; have n0_ := Aside0.mk (Kd.R_below (Kd.R_elderB (by (with_reducible repeat (first | apply Kd.R_alloc | apply Kd.R_drewN | apply Kd.R_drew)); exact HO_5.out) gb198 (Nat.le_of_eq hg.symm)) hb); have n1_ := Aside0.mk (below_step (by repeat (first | (with_reducible first | exact HB.out | apply below_alloc | apply pw_below_drewN | apply below_drew1) | exact HB.out)) hb); have n2_ := Aside0.mk (hbox); have n3_ := Aside0.mk ((by rw [hg]; exact (below_size (by repeat (first | (with_reducible first | exact HB.out | apply below_alloc | apply pw_below_drewN | apply below_drew1) | exact HB.out))) : w.heap.size ≤ gb198)); have n4_ := Aside0.mk ((by rw [hg]; exact (below_size (by repeat (first | (with_reducible first | exact HB.out | apply below_alloc | apply pw_below_drewN | apply below_drew1) | exact HB.out))) : w.heap.size ≤ gb198)); clear HO_5; clear HB; have HO_5 := n0_; have HB := n1_; have BK198 := n2_; have GW198 := n3_; have GE198 := n4_; clear n0_ n1_ n2_ n3_ n4_; clear hb hbox hg; have hcz23_0 : w22.cell? ⟨gb198, 0, none⟩ = some (.int .i64 0) := (blk_cell BK198.out 0).trans rfl; have hcz23_1 : w22.cell? ⟨gb198, 1, none⟩ = some (.int .i64 0) := (blk_cell BK198.out 1).trans rfl; have hfz23_0 := blk_frozen BK198.out 0; have hfz23_1 := blk_frozen BK198.out 1))
                    repeat (go_quiet (first | ((with_reducible refine gate_dst (N := 11) rfl ?_); refine box_event ?hg (N := 11) ?hd (cs := #[.int .i64 0, .int .i64 0]) (t := 28) ?hr ?_; (case hd => rfl); (case hg => rfl); (case hr => first | (go_simp; done) | (go_simp; rfl)); intro gb198 hg w22 hbox hb; have n0_ := Aside0.mk (Kd.R_below (Kd.R_elderB (by (with_reducible repeat (first | apply Kd.R_alloc | apply Kd.R_drewN | apply Kd.R_drew)); exact HO_5.out) gb198 (Nat.le_of_eq hg.symm)) hb); have n1_ := Aside0.mk (below_step (by repeat (first | (with_reducible first | exact HB.out | apply below_alloc | apply pw_below_drewN | apply below_drew1) | exact HB.out)) hb); have n2_ := Aside0.mk (hbox); have n3_ := Aside0.mk ((by rw [hg]; exact (below_size (by repeat (first | (with_reducible first | exact HB.out | apply below_alloc | apply pw_below_drewN | apply below_drew1) | exact HB.out))) : w.heap.size ≤ gb198)); have n4_ := Aside0.mk ((by rw [hg]; exact (below_size (by repeat (first | (with_reducible first | exact HB.out | apply below_alloc | apply pw_below_drewN | apply below_drew1) | exact HB.out))) : w.heap.size ≤ gb198)); clear HO_5; clear HB; have HO_5 := n0_; have HB := n1_; have BK198 := n2_; have GW198 := n3_; have GE198 := n4_; clear n0_ n1_ n2_ n3_ n4_; clear hb hbox hg; have hcz23_0 : w22.cell? ⟨gb198, 0, none⟩ = some (.int .i64 0) := (blk_cell BK198.out 0).trans rfl; have hcz23_1 : w22.cell? ⟨gb198, 1, none⟩ = some (.int .i64 0) := (blk_cell BK198.out 1).trans rfl; have hfz23_0 := blk_frozen BK198.out 0; have hfz23_1 := blk_frozen BK198.out 1)); try go_wp2_with (first | ((with_reducible refine gate_dst (N := 11) rfl ?_); refine box_event ?hg (N := 11) ?hd (cs := #[.int .i64 0, .int .i64 0]) (t := 28) ?hr ?_; (case hd => rfl); (case hg => rfl); (case hr => first | (go_simp; done) | (go_simp; rfl)); intro gb198 hg w22 hbox hb; have n0_ := Aside0.mk (Kd.R_below (Kd.R_elderB (by (with_reducible repeat (first | apply Kd.R_alloc | apply Kd.R_drewN | apply Kd.R_drew)); exact HO_5.out) gb198 (Nat.le_of_eq hg.symm)) hb); have n1_ := Aside0.mk (below_step (by repeat (first | (with_reducible first | exact HB.out | apply below_alloc | apply pw_below_drewN | apply below_drew1) | exact HB.out)) hb); have n2_ := Aside0.mk (hbox); have n3_ := Aside0.mk ((by rw [hg]; exact (below_size (by repeat (first | (with_reducible first | exact HB.out | apply below_alloc | apply pw_below_drewN | apply below_drew1) | exact HB.out))) : w.heap.size ≤ gb198)); have n4_ := Aside0.mk ((by rw [hg]; exact (below_size (by repeat (first | (with_reducible first | exact HB.out | apply below_alloc | apply pw_below_drewN | apply below_drew1) | exact HB.out))) : w.heap.size ≤ gb198)); clear HO_5; clear HB; have HO_5 := n0_; have HB := n1_; have BK198 := n2_; have GW198 := n3_; have GE198 := n4_; clear n0_ n1_ n2_ n3_ n4_; clear hb hbox hg; have hcz23_0 : w22.cell? ⟨gb198, 0, none⟩ = some (.int .i64 0) := (blk_cell BK198.out 0).trans rfl; have hcz23_1 : w22.cell? ⟨gb198, 1, none⟩ = some (.int .i64 0) := (blk_cell BK198.out 1).trans rfl; have hfz23_0 := blk_frozen BK198.out 0; have hfz23_1 := blk_frozen BK198.out 1)))
                    go_loopg [9] k2 (fun kq v9 w' => ∃ (x9_3 : Int), v9 = .int .i64 x9_3 ∧ Aside0 (perigeelaw7_TelemetryThinnedIsNear.l1 kq a1 t187 t188 x9_3 l0 (l0.length : Int) x40_2 ((rd_T28 l0 x40_2).f0) ((rd_T28 l0 x40_2).f1) = some r) ∧ Aside0 (kq ≤ k2) ∧ Aside0 (Kd.R k28 28 w' w.heap.size (fun k_ => k_ ≠ gb198) v189 t187) ∧ Aside0 (w'.heap[gb198]? = some (.cells #[.int .i64 ((rd_T28 l0 x40_2).f0), .int .i64 ((rd_T28 l0 x40_2).f1)] 28 (0, 0))) ∧ Aside0 (Below w.heap.size w w'))
                    case atStart => exact ⟨(x9_2), (by first | rfl | (simp; done) | (simp [*]; done)), H', ⟨Nat.le_refl _⟩, ⟨by (with_reducible repeat (first | apply Kd.R_alloc | apply Kd.R_drewN | apply Kd.R_drew)); exact Kd.R_mono (Kd.R_far (p := ⟨gb198, 1, none⟩) (Kd.R_far (p := ⟨gb198, 0, none⟩) (Kd.R_mono HO_5.out (fun k_ hk => (⟨hk, hk.2⟩ : _ ∧ k_ ≠ gb198))) (fun _ hk => hk.2) (.int .i64 ((rd_T28 l0 x40_2).f0))) (fun _ hk => hk.2) (.int .i64 ((rd_T28 l0 x40_2).f1))) (fun _ hk => hk.1.2)⟩, ⟨by (with_reducible repeat (first | refine blk_drewN ?_ _ | refine blk_drew ?_ | refine blk_alloc ?_ _)); refine blk_put (cs := #[.int .i64 ((rd_T28 l0 x40_2).f0), .int .i64 0]) ?_ 1 _ rfl; (with_reducible repeat (first | refine blk_drewN ?_ _ | refine blk_drew ?_ | refine blk_alloc ?_ _)); refine blk_put (cs := #[.int .i64 0, .int .i64 0]) ?_ 0 _ rfl; (with_reducible repeat (first | refine blk_drewN ?_ _ | refine blk_drew ?_ | refine blk_alloc ?_ _)); exact BK198.out⟩, ⟨by repeat (first | (with_reducible first | exact HB.out | apply below_alloc | apply pw_below_drewN | apply below_drew1 | refine below_set ?_ GE198.out) | exact HB.out)⟩⟩
                    case round =>
                      clear H'
                      try clear c1
                      try clear p1
                      try clear q1
                      try clear hx1
                      try clear c2
                      try clear p2
                      try clear c3
                      try clear c8
                      try clear c8b0
                      try clear c8b1
                      try clear c10
                      try clear c17
                      try clear c18
                      try clear c18b0
                      try clear c19
                      try clear c19b0
                      try clear p19
                      try clear q19
                      try clear hx19
                      try clear c20
                      try clear c20b0
                      try clear c21
                      try clear c21b0
                      try clear c21b1
                      try clear hcz23_0
                      try clear hcz23_1
                      try clear hfz23_0
                      try clear hfz23_1
                      try clear hx197_0
                      try clear hx197_1
                      try clear p197
                      try clear p2
                      try clear q197
                      obtain ⟨x9_3, rfl, HA, HK3, HO_5, BK198, HB⟩ := hrel
                      cases gk with
                      | zero => exact absurd HA.out (by simp [perigeelaw7_TelemetryThinnedIsNear.l1])
                      | succ k3 =>
                        have H := HA.out
                        clear HA
                        simp only [perigeelaw7_TelemetryThinnedIsNear.l1] at H
                        by_cases c24 : (wrap64 (x9_3 + 1)) < (t187.length : Int)
                        · rw [if_pos c24] at H
                          have c24b0 : decide ((wrap64 (x9_3 + 1)) < (t187.length : Int)) = true := decide_eq_true c24
                          clear c24
                          obtain ⟨ji25, hji25⟩ : ∃ j_ : Int, (wrap64 (x9_3 + 1)) = j_ := ⟨_, rfl⟩
                          replace H : (if 0 ≤ (ji25) then (if ((rd_T28 t187 (ji25)).f0) ≤ ((rd_T28 l0 x40_2).f0) then (perigeelaw7_TelemetryThinnedIsNear.l1 k3 a1 t187 t188 ji25 l0 (l0.length : Int) x40_2 ((rd_T28 l0 x40_2).f0) ((rd_T28 l0 x40_2).f1)) else (if 0 ≤ x9_3 then (if x9_3 < (t187.length : Int) then (if (wrap64 (((rd_T28 l0 x40_2).f1) - ((rd_T28 t187 x9_3).f1))) > a1 then (some false) else (if (wrap64 (-(wrap64 (((rd_T28 l0 x40_2).f1) - ((rd_T28 t187 x9_3).f1))))) > a1 then (some false) else (perigeelaw7_TelemetryThinnedIsNear.l0 k3 a1 t187 t188 x9_3 l0 (l0.length : Int) (wrap64 (x40_2 + 1))))) else (none)) else (none))) else (none)) = some r := by first | (rw [hji25] at H; exact H) | (simp only [hji25] at H ⊢; exact H)
                          (try rw [hji25] at c24b0)
                          have hji25w : (IntKind.i64.wrap (x9_3 + 1)) = ji25 := (i64_w _).trans hji25
                          by_cases c26 : 0 ≤ (ji25)
                          · rw [if_pos c26] at H
                            have c26b0 : decide (0 ≤ (ji25)) = true := decide_eq_true c26
                            clear c26
                            by_cases c27 : ((rd_T28 t187 (ji25)).f0) ≤ ((rd_T28 l0 x40_2).f0)
                            · rw [if_pos c27] at H
                              have c27b0 : decide (((rd_T28 t187 (ji25)).f0) ≤ ((rd_T28 l0 x40_2).f0)) = true := decide_eq_true c27
                              clear c27
                              have H' := Aside0.mk H
                              clear H
                              obtain ⟨Ao28, co28, eo28⟩ := Kd.R_slice HO_5.out
                              subst eo28
                              have p199 : 0 ≤ ((ji25) : Int) := of_decide_eq_true (by first | (with_reducible assumption) | assumption)
                              have q199 : (ji25) < (t187.length : Int) := of_decide_eq_true (by first | (with_reducible assumption) | assumption)
                              obtain ⟨ad199, e199, hx199_0, hx199_1⟩ := at_T28 (Kd.R_reads' HO_5.out).2.2 (ji25) p199 q199
                              cases e199
                              replace p199 := eq_true p199
                              replace q199 := eq_true q199
                              have hcz29_0 : wr.cell? ⟨gb198, 0, none⟩ = some (.int .i64 ((rd_T28 l0 x40_2).f0)) := (blk_cell BK198.out 0).trans rfl
                              have hcz29_1 : wr.cell? ⟨gb198, 1, none⟩ = some (.int .i64 ((rd_T28 l0 x40_2).f1)) := (blk_cell BK198.out 1).trans rfl
                              have hfz29_0 := blk_frozen BK198.out 0
                              have hfz29_1 := blk_frozen BK198.out 1
                              go_wp2
                              repeat (go_quiet (fail); try go_wp2)
                              go_roundg k3
                              case measure => have := HJ4.out; have := HK2.out; have := HK3.out; omega
                              case rel => exact ⟨(ji25), (by first | rfl | (simp; done) | (simp only [← hji25] <;> (first | rfl | simp)) | (simp [*]; done)), H', ⟨by have := HJ4.out; have := HK2.out; have := HK3.out; omega⟩, ⟨by (with_reducible repeat (first | apply Kd.R_alloc | apply Kd.R_drewN | apply Kd.R_drew)); exact HO_5.out⟩, ⟨by (with_reducible repeat (first | refine blk_drewN ?_ _ | refine blk_drew ?_ | refine blk_alloc ?_ _)); exact BK198.out⟩, ⟨by repeat (first | (with_reducible first | exact HB.out | apply below_alloc | apply pw_below_drewN | apply below_drew1 | refine below_set ?_ GE198.out) | exact HB.out)⟩⟩
                            · rw [if_neg c27] at H
                              have c27b0 : decide (((rd_T28 t187 (ji25)).f0) ≤ ((rd_T28 l0 x40_2).f0)) = false := decide_eq_false c27
                              clear c27
                              by_cases c30 : 0 ≤ x9_3
                              · rw [if_pos c30] at H
                                have c30b0 : decide (0 ≤ x9_3) = true := decide_eq_true c30
                                clear c30
                                by_cases c31 : x9_3 < (t187.length : Int)
                                · rw [if_pos c31] at H
                                  have c31b0 : decide (x9_3 < (t187.length : Int)) = true := decide_eq_true c31
                                  clear c31
                                  by_cases c32 : (wrap64 (((rd_T28 l0 x40_2).f1) - ((rd_T28 t187 x9_3).f1))) > a1
                                  · rw [if_pos c32] at H
                                    have c32b0 : decide (a1 < (wrap64 (((rd_T28 l0 x40_2).f1) - ((rd_T28 t187 x9_3).f1)))) = true := decide_eq_true c32
                                    clear c32
                                    obtain rfl := Option.some.inj H
                                    obtain ⟨Ao33, co33, eo33⟩ := Kd.R_slice HO_5.out
                                    subst eo33
                                    have p199 : 0 ≤ ((ji25) : Int) := of_decide_eq_true (by first | (with_reducible assumption) | assumption)
                                    have q199 : (ji25) < (t187.length : Int) := of_decide_eq_true (by first | (with_reducible assumption) | assumption)
                                    obtain ⟨ad199, e199, hx199_0, hx199_1⟩ := at_T28 (Kd.R_reads' HO_5.out).2.2 (ji25) p199 q199
                                    cases e199
                                    replace p199 := eq_true p199
                                    replace q199 := eq_true q199
                                    have hcz34_0 : wr.cell? ⟨gb198, 0, none⟩ = some (.int .i64 ((rd_T28 l0 x40_2).f0)) := (blk_cell BK198.out 0).trans rfl
                                    have hcz34_1 : wr.cell? ⟨gb198, 1, none⟩ = some (.int .i64 ((rd_T28 l0 x40_2).f1)) := (blk_cell BK198.out 1).trans rfl
                                    have hfz34_0 := blk_frozen BK198.out 0
                                    have hfz34_1 := blk_frozen BK198.out 1
                                    have p200 : 0 ≤ (x9_3 : Int) := of_decide_eq_true (by first | (with_reducible assumption) | assumption)
                                    have q200 : x9_3 < (t187.length : Int) := of_decide_eq_true (by first | (with_reducible assumption) | assumption)
                                    obtain ⟨ad200, e200, hx200_0, hx200_1⟩ := at_T28 (Kd.R_reads' HO_5.out).2.2 x9_3 p200 q200
                                    obtain rfl : ad199 = ad200 := (by injection e200)
                                    replace p200 := eq_true p200
                                    replace q200 := eq_true q200
                                    go_wp2
                                    repeat (go_quiet (fail); try go_wp2)
                                    go_ret
                                    exact ⟨by first | rfl | (simp [errW_none, errW_some] <;> rfl) | (simp only [← hji25]; first | rfl | (simp [errW_none, errW_some] <;> rfl)) | (simp [*, errW_none, errW_some] <;> rfl), by repeat (first | (with_reducible first | exact HB.out | apply below_alloc | apply pw_below_drewN | apply below_drew1 | refine below_set ?_ GE198.out) | exact HB.out)⟩
                                  · rw [if_neg c32] at H
                                    have c32b0 : decide (a1 < (wrap64 (((rd_T28 l0 x40_2).f1) - ((rd_T28 t187 x9_3).f1)))) = false := decide_eq_false c32
                                    clear c32
                                    by_cases c35 : (wrap64 (-(wrap64 (((rd_T28 l0 x40_2).f1) - ((rd_T28 t187 x9_3).f1))))) > a1
                                    · rw [if_pos c35] at H
                                      have c35b0 : decide (a1 < (wrap64 (-(wrap64 (((rd_T28 l0 x40_2).f1) - ((rd_T28 t187 x9_3).f1)))))) = true := decide_eq_true c35
                                      clear c35
                                      obtain rfl := Option.some.inj H
                                      obtain ⟨Ao36, co36, eo36⟩ := Kd.R_slice HO_5.out
                                      subst eo36
                                      have p199 : 0 ≤ ((ji25) : Int) := of_decide_eq_true (by first | (with_reducible assumption) | assumption)
                                      have q199 : (ji25) < (t187.length : Int) := of_decide_eq_true (by first | (with_reducible assumption) | assumption)
                                      obtain ⟨ad199, e199, hx199_0, hx199_1⟩ := at_T28 (Kd.R_reads' HO_5.out).2.2 (ji25) p199 q199
                                      cases e199
                                      replace p199 := eq_true p199
                                      replace q199 := eq_true q199
                                      have hcz37_0 : wr.cell? ⟨gb198, 0, none⟩ = some (.int .i64 ((rd_T28 l0 x40_2).f0)) := (blk_cell BK198.out 0).trans rfl
                                      have hcz37_1 : wr.cell? ⟨gb198, 1, none⟩ = some (.int .i64 ((rd_T28 l0 x40_2).f1)) := (blk_cell BK198.out 1).trans rfl
                                      have hfz37_0 := blk_frozen BK198.out 0
                                      have hfz37_1 := blk_frozen BK198.out 1
                                      have p200 : 0 ≤ (x9_3 : Int) := of_decide_eq_true (by first | (with_reducible assumption) | assumption)
                                      have q200 : x9_3 < (t187.length : Int) := of_decide_eq_true (by first | (with_reducible assumption) | assumption)
                                      obtain ⟨ad200, e200, hx200_0, hx200_1⟩ := at_T28 (Kd.R_reads' HO_5.out).2.2 x9_3 p200 q200
                                      obtain rfl : ad199 = ad200 := (by injection e200)
                                      replace p200 := eq_true p200
                                      replace q200 := eq_true q200
                                      go_wp2
                                      repeat (go_quiet (fail); try go_wp2)
                                      go_ret
                                      exact ⟨by first | rfl | (simp [errW_none, errW_some] <;> rfl) | (simp only [← hji25]; first | rfl | (simp [errW_none, errW_some] <;> rfl)) | (simp [*, errW_none, errW_some] <;> rfl), by repeat (first | (with_reducible first | exact HB.out | apply below_alloc | apply pw_below_drewN | apply below_drew1 | refine below_set ?_ GE198.out) | exact HB.out)⟩
                                    · rw [if_neg c35] at H
                                      have c35b0 : decide (a1 < (wrap64 (-(wrap64 (((rd_T28 l0 x40_2).f1) - ((rd_T28 t187 x9_3).f1)))))) = false := decide_eq_false c35
                                      clear c35
                                      have H' := Aside0.mk H
                                      clear H
                                      obtain ⟨Ao38, co38, eo38⟩ := Kd.R_slice HO_5.out
                                      subst eo38
                                      have p199 : 0 ≤ ((ji25) : Int) := of_decide_eq_true (by first | (with_reducible assumption) | assumption)
                                      have q199 : (ji25) < (t187.length : Int) := of_decide_eq_true (by first | (with_reducible assumption) | assumption)
                                      obtain ⟨ad199, e199, hx199_0, hx199_1⟩ := at_T28 (Kd.R_reads' HO_5.out).2.2 (ji25) p199 q199
                                      cases e199
                                      replace p199 := eq_true p199
                                      replace q199 := eq_true q199
                                      have hcz39_0 : wr.cell? ⟨gb198, 0, none⟩ = some (.int .i64 ((rd_T28 l0 x40_2).f0)) := (blk_cell BK198.out 0).trans rfl
                                      have hcz39_1 : wr.cell? ⟨gb198, 1, none⟩ = some (.int .i64 ((rd_T28 l0 x40_2).f1)) := (blk_cell BK198.out 1).trans rfl
                                      have hfz39_0 := blk_frozen BK198.out 0
                                      have hfz39_1 := blk_frozen BK198.out 1
                                      have p200 : 0 ≤ (x9_3 : Int) := of_decide_eq_true (by first | (with_reducible assumption) | assumption)
                                      have q200 : x9_3 < (t187.length : Int) := of_decide_eq_true (by first | (with_reducible assumption) | assumption)
                                      obtain ⟨ad200, e200, hx200_0, hx200_1⟩ := at_T28 (Kd.R_reads' HO_5.out).2.2 x9_3 p200 q200
                                      obtain rfl : ad199 = ad200 := (by injection e200)
                                      replace p200 := eq_true p200
                                      replace q200 := eq_true q200
                                      go_wp2
                                      repeat (go_quiet (fail); try go_wp2)
                                      go_roundg k3
                                      case measure => have := HJ4.out; have := HK2.out; have := HK3.out; omega
                                      case rel => exact ⟨(x9_3), (wrap64 (x40_2 + 1)), (by first | rfl | (simp; done) | (simp [*]; done)), (by first | rfl | (simp; done) | (simp [*]; done)), H', ⟨by have := HJ4.out; have := HK2.out; have := HK3.out; omega⟩, ⟨by (with_reducible repeat (first | apply Kd.R_alloc | apply Kd.R_drewN | apply Kd.R_drew)); exact Kd.R_mono HO_5.out (fun _ hk => trivial)⟩, ⟨by repeat (first | (with_reducible first | exact HB.out | apply below_alloc | apply pw_below_drewN | apply below_drew1 | refine below_set ?_ GE198.out) | exact HB.out)⟩⟩
                                · rw [if_neg c31] at H
                                  exact absurd H (by simp)
                              · rw [if_neg c30] at H
                                exact absurd H (by simp)
                          · rw [if_neg c26] at H
                            exact absurd H (by simp)
                        · rw [if_neg c24] at H
                          have c24b0 : decide ((wrap64 (x9_3 + 1)) < (t187.length : Int)) = false := decide_eq_false c24
                          clear c24
                          by_cases c40 : 0 ≤ x9_3
                          · rw [if_pos c40] at H
                            have c40b0 : decide (0 ≤ x9_3) = true := decide_eq_true c40
                            clear c40
                            by_cases c41 : x9_3 < (t187.length : Int)
                            · rw [if_pos c41] at H
                              have c41b0 : decide (x9_3 < (t187.length : Int)) = true := decide_eq_true c41
                              clear c41
                              by_cases c42 : (wrap64 (((rd_T28 l0 x40_2).f1) - ((rd_T28 t187 x9_3).f1))) > a1
                              · rw [if_pos c42] at H
                                have c42b0 : decide (a1 < (wrap64 (((rd_T28 l0 x40_2).f1) - ((rd_T28 t187 x9_3).f1)))) = true := decide_eq_true c42
                                clear c42
                                obtain rfl := Option.some.inj H
                                obtain ⟨Ao43, co43, eo43⟩ := Kd.R_slice HO_5.out
                                subst eo43
                                have hcz44_0 : wr.cell? ⟨gb198, 0, none⟩ = some (.int .i64 ((rd_T28 l0 x40_2).f0)) := (blk_cell BK198.out 0).trans rfl
                                have hcz44_1 : wr.cell? ⟨gb198, 1, none⟩ = some (.int .i64 ((rd_T28 l0 x40_2).f1)) := (blk_cell BK198.out 1).trans rfl
                                have hfz44_0 := blk_frozen BK198.out 0
                                have hfz44_1 := blk_frozen BK198.out 1
                                have p201 : 0 ≤ (x9_3 : Int) := of_decide_eq_true (by first | (with_reducible assumption) | assumption)
                                have q201 : x9_3 < (t187.length : Int) := of_decide_eq_true (by first | (with_reducible assumption) | assumption)
                                obtain ⟨ad201, e201, hx201_0, hx201_1⟩ := at_T28 (Kd.R_reads' HO_5.out).2.2 x9_3 p201 q201
                                cases e201
                                replace p201 := eq_true p201
                                replace q201 := eq_true q201
                                go_wp2
                                repeat (go_quiet (fail); try go_wp2)
                                go_ret
                                exact ⟨by first | rfl | (simp [errW_none, errW_some] <;> rfl) | (simp [*, errW_none, errW_some] <;> rfl), by repeat (first | (with_reducible first | exact HB.out | apply below_alloc | apply pw_below_drewN | apply below_drew1 | refine below_set ?_ GE198.out) | exact HB.out)⟩
                              · rw [if_neg c42] at H
                                have c42b0 : decide (a1 < (wrap64 (((rd_T28 l0 x40_2).f1) - ((rd_T28 t187 x9_3).f1)))) = false := decide_eq_false c42
                                clear c42
                                by_cases c45 : (wrap64 (-(wrap64 (((rd_T28 l0 x40_2).f1) - ((rd_T28 t187 x9_3).f1))))) > a1
                                · rw [if_pos c45] at H
                                  have c45b0 : decide (a1 < (wrap64 (-(wrap64 (((rd_T28 l0 x40_2).f1) - ((rd_T28 t187 x9_3).f1)))))) = true := decide_eq_true c45
                                  clear c45
                                  obtain rfl := Option.some.inj H
                                  obtain ⟨Ao46, co46, eo46⟩ := Kd.R_slice HO_5.out
                                  subst eo46
                                  have hcz47_0 : wr.cell? ⟨gb198, 0, none⟩ = some (.int .i64 ((rd_T28 l0 x40_2).f0)) := (blk_cell BK198.out 0).trans rfl
                                  have hcz47_1 : wr.cell? ⟨gb198, 1, none⟩ = some (.int .i64 ((rd_T28 l0 x40_2).f1)) := (blk_cell BK198.out 1).trans rfl
                                  have hfz47_0 := blk_frozen BK198.out 0
                                  have hfz47_1 := blk_frozen BK198.out 1
                                  have p201 : 0 ≤ (x9_3 : Int) := of_decide_eq_true (by first | (with_reducible assumption) | assumption)
                                  have q201 : x9_3 < (t187.length : Int) := of_decide_eq_true (by first | (with_reducible assumption) | assumption)
                                  obtain ⟨ad201, e201, hx201_0, hx201_1⟩ := at_T28 (Kd.R_reads' HO_5.out).2.2 x9_3 p201 q201
                                  cases e201
                                  replace p201 := eq_true p201
                                  replace q201 := eq_true q201
                                  go_wp2
                                  repeat (go_quiet (fail); try go_wp2)
                                  go_ret
                                  exact ⟨by first | rfl | (simp [errW_none, errW_some] <;> rfl) | (simp [*, errW_none, errW_some] <;> rfl), by repeat (first | (with_reducible first | exact HB.out | apply below_alloc | apply pw_below_drewN | apply below_drew1 | refine below_set ?_ GE198.out) | exact HB.out)⟩
                                · rw [if_neg c45] at H
                                  have c45b0 : decide (a1 < (wrap64 (-(wrap64 (((rd_T28 l0 x40_2).f1) - ((rd_T28 t187 x9_3).f1)))))) = false := decide_eq_false c45
                                  clear c45
                                  have H' := Aside0.mk H
                                  clear H
                                  obtain ⟨Ao48, co48, eo48⟩ := Kd.R_slice HO_5.out
                                  subst eo48
                                  have hcz49_0 : wr.cell? ⟨gb198, 0, none⟩ = some (.int .i64 ((rd_T28 l0 x40_2).f0)) := (blk_cell BK198.out 0).trans rfl
                                  have hcz49_1 : wr.cell? ⟨gb198, 1, none⟩ = some (.int .i64 ((rd_T28 l0 x40_2).f1)) := (blk_cell BK198.out 1).trans rfl
                                  have hfz49_0 := blk_frozen BK198.out 0
                                  have hfz49_1 := blk_frozen BK198.out 1
                                  have p201 : 0 ≤ (x9_3 : Int) := of_decide_eq_true (by first | (with_reducible assumption) | assumption)
                                  have q201 : x9_3 < (t187.length : Int) := of_decide_eq_true (by first | (with_reducible assumption) | assumption)
                                  obtain ⟨ad201, e201, hx201_0, hx201_1⟩ := at_T28 (Kd.R_reads' HO_5.out).2.2 x9_3 p201 q201
                                  cases e201
                                  replace p201 := eq_true p201
                                  replace q201 := eq_true q201
                                  go_wp2
                                  repeat (go_quiet (fail); try go_wp2)
                                  go_roundg k3
                                  case measure => have := HJ4.out; have := HK2.out; have := HK3.out; omega
                                  case rel => exact ⟨(x9_3), (wrap64 (x40_2 + 1)), (by first | rfl | (simp; done) | (simp [*]; done)), (by first | rfl | (simp; done) | (simp [*]; done)), H', ⟨by have := HJ4.out; have := HK2.out; have := HK3.out; omega⟩, ⟨by (with_reducible repeat (first | apply Kd.R_alloc | apply Kd.R_drewN | apply Kd.R_drew)); exact Kd.R_mono HO_5.out (fun _ hk => trivial)⟩, ⟨by repeat (first | (with_reducible first | exact HB.out | apply below_alloc | apply pw_below_drewN | apply below_drew1 | refine below_set ?_ GE198.out) | exact HB.out)⟩⟩
                            · rw [if_neg c41] at H
                              exact absurd H (by simp)
                          · rw [if_neg c40] at H
                            exact absurd H (by simp)
                  · rw [if_neg c21] at H
                    have c21b0 : (t188 == 0) = false := beq_eq_false_iff_ne.mpr c21
                    have c21b1 : (t188 != 0) = true := bne_iff_ne.mpr c21
                    obtain rfl := Option.some.inj H
                    have p197 : 0 ≤ (x40_2 : Int) := of_decide_eq_true (by first | (with_reducible assumption) | assumption)
                    have q197 : x40_2 < (l0.length : Int) := of_decide_eq_true (by first | (with_reducible assumption) | assumption)
                    obtain ⟨ad197, e197, hx197_0, hx197_1⟩ := at_T28 HR0.out x40_2 p197 q197
                    cases e197
                    replace hx197_0 := (HB.out.cell (World.block_lt_of_cell? w _ hx197_0)).trans hx197_0
                    replace hx197_1 := (HB.out.cell (World.block_lt_of_cell? w _ hx197_1)).trans hx197_1
                    replace p197 := eq_true p197
                    replace q197 := eq_true q197
                    go_wp2_with (first | ((with_reducible refine gate_dst (N := 11) rfl ?_); refine box_event ?hg (N := 11) ?hd (cs := #[.int .i64 0, .int .i64 0]) (t := 28) ?hr ?_; (case hd => rfl); (case hg => rfl); (case hr => first | (go_simp; done) | (go_simp; rfl)); intro gb198 hg w50 hbox hb; have n0_ := Aside0.mk (Kd.R_below (Kd.R_elderB (by (with_reducible repeat (first | apply Kd.R_alloc | apply Kd.R_drewN | apply Kd.R_drew)); exact HO_5.out) gb198 (Nat.le_of_eq hg.symm)) hb); have n1_ := Aside0.mk (below_step (by repeat (first | (with_reducible first | exact HB.out | apply below_alloc | apply pw_below_drewN | apply below_drew1) | exact HB.out)) hb); have n2_ := Aside0.mk (hbox); have n3_ := Aside0.mk ((by rw [hg]; exact (below_size (by repeat (first | (with_reducible first | exact HB.out | apply below_alloc | apply pw_below_drewN | apply below_drew1) | exact HB.out))) : w.heap.size ≤ gb198)); have n4_ := Aside0.mk ((by rw [hg]; exact (below_size (by repeat (first | (with_reducible first | exact HB.out | apply below_alloc | apply pw_below_drewN | apply below_drew1) | exact HB.out))) : w.heap.size ≤ gb198)); clear HO_5; clear HB; have HO_5 := n0_; have HB := n1_; have BK198 := n2_; have GW198 := n3_; have GE198 := n4_; clear n0_ n1_ n2_ n3_ n4_; clear hb hbox hg; have hcz51_0 : w50.cell? ⟨gb198, 0, none⟩ = some (.int .i64 0) := (blk_cell BK198.out 0).trans rfl; have hcz51_1 : w50.cell? ⟨gb198, 1, none⟩ = some (.int .i64 0) := (blk_cell BK198.out 1).trans rfl; have hfz51_0 := blk_frozen BK198.out 0; have hfz51_1 := blk_frozen BK198.out 1))
                    repeat (go_quiet (first | ((with_reducible refine gate_dst (N := 11) rfl ?_); refine box_event ?hg (N := 11) ?hd (cs := #[.int .i64 0, .int .i64 0]) (t := 28) ?hr ?_; (case hd => rfl); (case hg => rfl); (case hr => first | (go_simp; done) | (go_simp; rfl)); intro gb198 hg w50 hbox hb; have n0_ := Aside0.mk (Kd.R_below (Kd.R_elderB (by (with_reducible repeat (first | apply Kd.R_alloc | apply Kd.R_drewN | apply Kd.R_drew)); exact HO_5.out) gb198 (Nat.le_of_eq hg.symm)) hb); have n1_ := Aside0.mk (below_step (by repeat (first | (with_reducible first | exact HB.out | apply below_alloc | apply pw_below_drewN | apply below_drew1) | exact HB.out)) hb); have n2_ := Aside0.mk (hbox); have n3_ := Aside0.mk ((by rw [hg]; exact (below_size (by repeat (first | (with_reducible first | exact HB.out | apply below_alloc | apply pw_below_drewN | apply below_drew1) | exact HB.out))) : w.heap.size ≤ gb198)); have n4_ := Aside0.mk ((by rw [hg]; exact (below_size (by repeat (first | (with_reducible first | exact HB.out | apply below_alloc | apply pw_below_drewN | apply below_drew1) | exact HB.out))) : w.heap.size ≤ gb198)); clear HO_5; clear HB; have HO_5 := n0_; have HB := n1_; have BK198 := n2_; have GW198 := n3_; have GE198 := n4_; clear n0_ n1_ n2_ n3_ n4_; clear hb hbox hg; have hcz51_0 : w50.cell? ⟨gb198, 0, none⟩ = some (.int .i64 0) := (blk_cell BK198.out 0).trans rfl; have hcz51_1 : w50.cell? ⟨gb198, 1, none⟩ = some (.int .i64 0) := (blk_cell BK198.out 1).trans rfl; have hfz51_0 := blk_frozen BK198.out 0; have hfz51_1 := blk_frozen BK198.out 1)); try go_wp2_with (first | ((with_reducible refine gate_dst (N := 11) rfl ?_); refine box_event ?hg (N := 11) ?hd (cs := #[.int .i64 0, .int .i64 0]) (t := 28) ?hr ?_; (case hd => rfl); (case hg => rfl); (case hr => first | (go_simp; done) | (go_simp; rfl)); intro gb198 hg w50 hbox hb; have n0_ := Aside0.mk (Kd.R_below (Kd.R_elderB (by (with_reducible repeat (first | apply Kd.R_alloc | apply Kd.R_drewN | apply Kd.R_drew)); exact HO_5.out) gb198 (Nat.le_of_eq hg.symm)) hb); have n1_ := Aside0.mk (below_step (by repeat (first | (with_reducible first | exact HB.out | apply below_alloc | apply pw_below_drewN | apply below_drew1) | exact HB.out)) hb); have n2_ := Aside0.mk (hbox); have n3_ := Aside0.mk ((by rw [hg]; exact (below_size (by repeat (first | (with_reducible first | exact HB.out | apply below_alloc | apply pw_below_drewN | apply below_drew1) | exact HB.out))) : w.heap.size ≤ gb198)); have n4_ := Aside0.mk ((by rw [hg]; exact (below_size (by repeat (first | (with_reducible first | exact HB.out | apply below_alloc | apply pw_below_drewN | apply below_drew1) | exact HB.out))) : w.heap.size ≤ gb198)); clear HO_5; clear HB; have HO_5 := n0_; have HB := n1_; have BK198 := n2_; have GW198 := n3_; have GE198 := n4_; clear n0_ n1_ n2_ n3_ n4_; clear hb hbox hg; have hcz51_0 : w50.cell? ⟨gb198, 0, none⟩ = some (.int .i64 0) := (blk_cell BK198.out 0).trans rfl; have hcz51_1 : w50.cell? ⟨gb198, 1, none⟩ = some (.int .i64 0) := (blk_cell BK198.out 1).trans rfl; have hfz51_0 := blk_frozen BK198.out 0; have hfz51_1 := blk_frozen BK198.out 1)))
                    go_ret
                    exact ⟨by first | rfl | (simp [errW_none, errW_some] <;> rfl) | (simp [*, errW_none, errW_some] <;> rfl), by repeat (first | (with_reducible first | exact HB.out | apply below_alloc | apply pw_below_drewN | apply below_drew1 | refine below_set ?_ GE198.out) | exact HB.out)⟩
                · rw [if_neg c20] at H
                  exact absurd H (by simp)
              · rw [if_neg c19] at H
                exact absurd H (by simp)
            · rw [if_neg c18] at H
              have c18b0 : decide (x40_2 < (l0.length : Int)) = false := decide_eq_false c18
              clear c18
              obtain rfl := Option.some.inj H
              go_wp2
              repeat (go_quiet (fail); try go_wp2)
              go_ret
              exact ⟨by first | rfl | (simp [errW_none, errW_some] <;> rfl) | (simp [*, errW_none, errW_some] <;> rfl), by repeat (first | (with_reducible first | exact HB.out | apply below_alloc | apply pw_below_drewN | apply below_drew1) | exact HB.out)⟩

end Go.Proofs.Ytbkmohnmciojpaa.P

-- YtbkmohnmciojpaaOpens
set_option linter.unusedVariables false
set_option linter.unusedSimpArgs false
namespace Go.Proofs.Ytbkmohnmciojpaa.Open
open Go.RowKit Go.Proofs.YtbkmohnmciojpaaW.PrintWords

/-- Cells that read as data of type t say a value of kind d, about which ok holds. -/
def Opens {α : Type} (P : Program) (d : Kd α) (t : TypeId) (ok : α → Prop) : Prop :=
  ∀ {H : Type} {enc : TypeId × Value → H} {w : World} {fuel : Nat} {cs : List Value} {x : DataW H × List MemPlace},
    DataW.trod enc P w 0 (fun _ => true) true fuel t cs = some x → (∀ n ∈ x.1.weights P t, n ≤ reachBytes) → ∃ y, d.K w y cs ∧ ok y

theorem opens_bool {P : Program} {t : TypeId} (ht : P.underlying t = some .bool) : Opens P Kd.bool t (fun _ => True) := by
  intro H enc w fuel cs x h _
  obtain ⟨b, rfl, _⟩ := DataW.trod_bool ht h
  exact ⟨b, rfl, trivial⟩

theorem opens_int {P : Program} {t : TypeId} {k : IntKind} (ht : P.underlying t = some (.int k)) : Opens P (Kd.int k) t (fun n => (Lit.int k n).wf = true) := by
  intro H enc w fuel cs x h _
  obtain ⟨n, rfl, _, hw⟩ := DataW.trod_int ht h
  exact ⟨n, rfl, hw⟩

theorem opens_i64 {P : Program} {t : TypeId} (ht : P.underlying t = some (.int .i64)) : Opens P (Kd.int .i64) t (fun n => -9223372036854775808 ≤ n ∧ n ≤ 9223372036854775807) := by
  intro H enc w fuel cs x h hx
  obtain ⟨y, hy, hw⟩ := opens_int ht h hx
  refine ⟨y, hy, ?_⟩
  simp [Lit.wf, IntKind.min, IntKind.max, IntKind.bits, IntKind.signed] at hw
  omega

theorem opens_u8 {P : Program} {t : TypeId} (ht : P.underlying t = some (.int .u8)) : Opens P (Kd.int .u8) t (fun n => 0 ≤ n ∧ n ≤ 255) := by
  intro H enc w fuel cs x h hx
  obtain ⟨y, hy, hw⟩ := opens_int ht h hx
  refine ⟨y, hy, ?_⟩
  simp [Lit.wf, IntKind.min, IntKind.max, IntKind.bits, IntKind.signed] at hw
  omega

theorem opens_string {P : Program} {t : TypeId} (ht : P.underlying t = some .string) : Opens P Kd.string t (fun s => s.size ≤ 140737488351232) := by
  intro H enc w fuel cs x h hx
  obtain ⟨s, rfl, rfl, hw⟩ := DataW.trod_string ht h
  refine ⟨s, rfl, ?_⟩
  have := hx s.data.toList.length (by simp [DataW.weights])
  rw [data_length] at this
  simpa [reachBytes] using this

theorem opens_iso {α β : Type} {P : Program} {d : Kd α} {t : TypeId} {ok : α → Prop} (f : β → α) (g : α → β) (hg : ∀ y, f (g y) = y) (h : Opens P d t ok) : Opens P (Kd.iso d f) t (fun x => ok (f x)) := by
  intro H enc w fuel cs x hx hw
  obtain ⟨y, hy, ho⟩ := h hx hw
  exact ⟨g y, by show d.K w (f (g y)) cs; rw [hg]; exact hy, by show ok (f (g y)); rw [hg]; exact ho⟩

theorem opens_imp {α : Type} {P : Program} {d : Kd α} {t : TypeId} {ok ok' : α → Prop} (hi : ∀ x, ok x → ok' x) (h : Opens P d t ok) : Opens P d t ok' := by
  intro H enc w fuel cs x hx hw
  obtain ⟨y, hy, ho⟩ := h hx hw
  exact ⟨y, hy, hi y ho⟩

theorem list_of {α : Type} (p : Nat → α → Prop) : ∀ n : Nat, (∀ i, i < n → ∃ y, p i y) → ∃ l : List α, l.length = n ∧ ∀ i y, l[i]? = some y → p i y := by
  intro n
  induction n with
  | zero => intro _; exact ⟨[], rfl, fun i y h => by simp at h⟩
  | succ n ih =>
    intro h
    obtain ⟨l, hl, hp⟩ := ih (fun i hi => h i (by omega))
    obtain ⟨y, hy⟩ := h n (by omega)
    refine ⟨l ++ [y], by simp [hl], fun i z hz => ?_⟩
    by_cases hi : i < l.length
    · exact hp i z (by rwa [List.getElem?_append_left hi] at hz)
    · rw [List.getElem?_append_right (by omega)] at hz
      have hi2 : i - l.length < 1 := by
        rcases Nat.lt_or_ge (i - l.length) 1 with h | h
        · exact h
        · rw [List.getElem?_eq_none (by simpa using h)] at hz
          cases hz
      have e : i = n := by omega
      subst e
      rw [hl] at hz
      simp at hz
      subst hz
      exact hy

theorem weightsAll_mem {H : Type} {P : Program} {e : TypeId} {d : DataW H} : ∀ {l : List (DataW H)}, d ∈ l → ∀ n ∈ d.weights P e, n ∈ DataW.weightsAll P e l := by
  intro l
  induction l with
  | nil => intro h; cases h
  | cons a l ih =>
    intro h n hn
    rw [DataW.weightsAll, List.mem_append]
    rcases List.mem_cons.1 h with rfl | h
    · exact .inl hn
    · exact .inr (ih h n hn)

theorem opens_slice {α : Type} {P : Program} {d : Kd α} {t e : TypeId} {ok : α → Prop} {B : Nat} (ht : P.underlying t = some (.slice e)) (hc : P.cellsOf e = d.sz) (hB : P.bytesOf e = B) (h : Opens P d e ok) :
    Opens P (Kd.slice e d) t (fun xs => xs.length ≤ 9223372036854775807 ∧ xs.length * B ≤ 140737488351232 ∧ ∀ x ∈ xs, ok x) := by
  intro H enc w fuel cs x hx hw
  rcases DataW.trod_slice ht hx with ⟨rfl, rfl⟩ | ⟨a, len, cap, elems, rest, n, _, rfl, rfl, hb, hl, hm, hlen, hel, hsp, _⟩
  · exact ⟨[], ⟨none, 0, rfl, Nat.le_refl _, Kd.C_nil d w⟩, by simp, by simp, by simp⟩
  · have each : ∀ i, i < len → ∃ y, (∃ c, c.length = d.sz ∧ d.K w y c ∧ ∀ j u, c[j]? = some u → w.cell? (a.add (i * d.sz + j)) = some u) ∧ ok y := by
      intro i hi
      have h1 := hel i hi
      have hi2 : i < elems.length := by omega
      rw [List.getElem?_eq_getElem hi2, Option.bind_eq_some_iff] at h1
      obtain ⟨c, hcs, h2⟩ := h1
      obtain ⟨_, hcl, hcc⟩ := World.cells?_some hcs
      obtain ⟨y, hy, ho⟩ := h h2 (fun m hm => hw m (by
        rw [DataW.weights]
        simp only [ht, List.mem_cons, List.mem_append]
        exact .inr (.inl (weightsAll_mem (List.mem_map_of_mem (f := Prod.fst) (List.getElem_mem hi2)) m hm))))
      refine ⟨y, ⟨c, by rw [hcl, hc], hy, fun j u hu => ?_⟩, ho⟩
      have hj : j < P.cellsOf e := by
        rcases Nat.lt_or_ge j c.length with h | h
        · omega
        · rw [List.getElem?_eq_none h] at hu
          cases hu
      have := hcc j hj
      rw [hu, Go.Addr.add_add, hc] at this
      exact this
    obtain ⟨l, hll, hp⟩ := list_of _ len each
    have hlb : len * B ≤ 140737488351232 := by
      have h1 : ((elems.map (·.1)).length + (rest.map (·.1)).length) * P.bytesOf e ≤ reachBytes := hw _ (by
        rw [DataW.weights]
        simp only [ht]
        exact List.mem_cons_self)
      rw [hB] at h1
      have h2 : len * B ≤ ((elems.map (·.1)).length + (rest.map (·.1)).length) * B := Nat.mul_le_mul_right _ (by simp; omega)
      simpa [reachBytes] using Nat.le_trans h2 h1
    refine ⟨l, ⟨some a, cap, by rw [hll], by omega, ⟨rfl, by simp only [maxLen] at hm; omega, fun _ => ⟨a, rfl, fun j p hj => (hp j p hj).1⟩⟩⟩, by simp only [maxLen] at hm; omega, by rw [hll]; exact hlb, fun x hx => ?_⟩
    obtain ⟨i, hi⟩ := List.getElem?_of_mem hx
    exact (hp i x hi).2

/-- The fields of a struct from one on. -/
def Fields {α : Type} (P : Program) (d : Kd α) (fs : List Field) (off tot : Nat) (ok : α → Prop) : Prop :=
  ∀ {H : Type} {enc : TypeId × Value → H} {w : World} {n : Nat} {cs : List Value} {xs : List (DataW H × List MemPlace)}, cs.length = tot → xs.length = fs.length →
    (∀ (i : Nat) (f : Field), fs[i]? = some f → DataW.trod enc P w 0 (fun _ => true) true n f.type ((cs.drop f.offset).take (P.cellsOf f.type)) = xs[i]?) →
    (∀ m ∈ DataW.weightsEach P (fs.map (·.type)) (xs.map (·.1)), m ≤ reachBytes) → ∃ y, d.K w y (cs.drop off) ∧ ok y

theorem fields_last {α : Type} {P : Program} {d : Kd α} {f : Field} {off tot : Nat} {ok : α → Prop} (h : Opens P d f.type ok) (ho : f.offset = off) (hc : off + P.cellsOf f.type = tot) : Fields P d [f] off tot ok := by
  intro H enc w n cs xs hcs hxs hf hw
  obtain ⟨x, rfl⟩ : ∃ x, xs = [x] := by
    match xs, hxs with
    | [x], _ => exact ⟨x, rfl⟩
  have h1 := hf 0 f rfl
  rw [ho, List.take_of_length_le (by simp; omega)] at h1
  exact h h1 (fun m hm => hw m (by simpa [DataW.weightsEach] using hm))

theorem fields_cons {α β : Type} {P : Program} {a : Kd α} {b : Kd β} {f : Field} {fs : List Field} {off tot : Nat} {okA : α → Prop} {okB : β → Prop} (h : Opens P a f.type okA) (ho : f.offset = off) (hs : Fields P b fs (off + P.cellsOf f.type) tot okB) :
    Fields P (Kd.pair a b) (f :: fs) off tot (fun y => okA y.1 ∧ okB y.2) := by
  intro H enc w n cs xs hcs hxs hf hw
  match xs, hxs with
  | x :: xs, hxs =>
    have h1 := hf 0 f rfl
    rw [ho] at h1
    obtain ⟨y, hy, hoy⟩ := h (x := x) h1 (fun m hm => hw m (by simp [DataW.weightsEach]; exact .inl hm))
    obtain ⟨z, hz, hoz⟩ := hs (xs := xs) hcs (by simpa using hxs) (fun i g hg => by have := hf (i + 1) g (by simpa using hg); simpa using this) (fun m hm => hw m (by
      simp only [List.map_cons, DataW.weightsEach, List.mem_append]
      exact .inr hm))
    exact ⟨(y, z), ⟨_, _, by rw [← List.drop_drop, List.take_append_drop], hy, hz⟩, hoy, hoz⟩

theorem opens_struct {α : Type} {P : Program} {d : Kd α} {t : TypeId} {fs : Array Field} {tot : Nat} {ok : α → Prop} (ht : P.underlying t = some (.struct fs)) (hc : P.cellsOf t = tot) (h : Fields P d fs.toList 0 tot ok) : Opens P d t ok := by
  intro H enc w fuel cs x hx hw
  obtain ⟨xs, n, _, rfl, hcl, hxl, hf⟩ := DataW.trod_struct ht hx
  have := h (enc := enc) (w := w) (n := n) (cs := cs) (xs := xs) (by rw [hcl, hc]) (by simpa using hxl) (fun i f hi => hf i f (by simpa using hi)) (fun m hm => hw m (by
    rw [DataW.weights]
    simp only [ht]
    exact hm))
  simpa using this

/-- A parameter that is a slice. -/
theorem param_slice {α : Type} {H : Type} {enc : TypeId × Value → H} {P : Program} {d : Kd α} {t e : TypeId} {ok : List α → Prop} {w : World} {a : Option Addr} {len cap : Nat} {x : DataW H} {ps : List MemPlace} {ts : List TypeId} {ds : List (DataW H)} {j : Nat}
    (hsz : (DataW.weightsEach P ts ds).all (· ≤ reachBytes) = true) (hj : ts[j]? = some t) (hd : ds[j]? = some x) (h : DataW.Trod enc P w 0 (fun _ => true) true t (.slice a len cap) x ps) (ho : Opens P (Kd.slice e d) t ok) :
    ∃ l, len = l.length ∧ l.length ≤ cap ∧ d.C w a l.length l ∧ ok l := by
  obtain ⟨fuel, hf⟩ := h
  obtain ⟨l, ⟨A, c, he, hl, hC⟩, hok⟩ := ho hf (weights_of hsz hj hd)
  simp [Value.cells] at he
  obtain ⟨rfl, rfl, rfl⟩ := he
  exact ⟨l, rfl, hl, hC, hok⟩
 where
  weights_of {H : Type} {P : Program} {t : TypeId} {x : DataW H} : ∀ {ts : List TypeId} {ds : List (DataW H)} {j : Nat}, (DataW.weightsEach P ts ds).all (· ≤ reachBytes) = true → ts[j]? = some t → ds[j]? = some x → ∀ n ∈ x.weights P t, n ≤ reachBytes := by
    intro ts
    induction ts with
    | nil => intro ds j _ h; simp at h
    | cons a ts ih =>
      intro ds j hw ht hd n hn
      match ds with
      | [] => simp at hd
      | d :: ds =>
        rw [DataW.weightsEach, List.all_append, Bool.and_eq_true] at hw
        cases j with
        | zero =>
          simp at ht hd
          subst ht; subst hd
          simpa using List.all_eq_true.1 hw.1 n hn
        | succ j => exact ih hw.2 (by simpa using ht) (by simpa using hd) n hn

/-- A parameter of any kind: its cells. -/
theorem param_any {α : Type} {H : Type} {enc : TypeId × Value → H} {P : Program} {d : Kd α} {t : TypeId} {ok : α → Prop} {w : World} {v : Value} {x : DataW H} {ps : List MemPlace} {ts : List TypeId} {ds : List (DataW H)} {j : Nat}
    (hsz : (DataW.weightsEach P ts ds).all (· ≤ reachBytes) = true) (hj : ts[j]? = some t) (hd : ds[j]? = some x) (h : DataW.Trod enc P w 0 (fun _ => true) true t v x ps) (ho : Opens P d t ok) :
    ∃ y, d.K w y v.cells.toList ∧ ok y := by
  obtain ⟨fuel, hf⟩ := h
  exact ho hf (param_slice.weights_of hsz hj hd)

def OkI (n : Int) : Prop := -9223372036854775808 ≤ n ∧ n ≤ 9223372036854775807
def OkU8 (n : Int) : Prop := 0 ≤ n ∧ n ≤ 255
def OkB (_ : Bool) : Prop := True
def OkS (s : ByteArray) : Prop := s.size ≤ 140737488351232
def OkL {α : Type} (B : Nat) (ok : α → Prop) (xs : List α) : Prop := xs.length ≤ 9223372036854775807 ∧ xs.length * B ≤ 140737488351232 ∧ ∀ x ∈ xs, ok x

theorem agg_eq {cs : Array Value} {l : List Value} (h : (Value.agg cs).cells.toList = l) : cs = l.toArray := by
  subst h
  simp [Value.cells]

end Go.Proofs.Ytbkmohnmciojpaa.Open

-- YtbkmohnmciojpaaOk
set_option linter.unusedVariables false
namespace Go.Proofs.Ytbkmohnmciojpaa.P
open Go.RowKit Go.Proofs.Ytbkmohnmciojpaa.Open Go.Proofs.Ytbkmohnmciojpaa.P Go.Proofs.YtbkmohnmciojpaaW.PrintWords Go.Proofs.YtbkmohnmciojpaaW.PrintLast Go.Proofs.YtbkmohnmciojpaaW.PrintMore

def ok28 (x : S28) : Prop := OkI x.f0 ∧ OkI x.f1
theorem opens28 : Opens Try.prog k28 28 ok28 := opens_iso _ (fun y => ⟨y.1, y.2⟩) (fun _ => rfl) (opens_struct (tot := 2) Try.underlying28 (by kernel_rfl) (fields_cons (opens_i64 Try.underlying3) (by rfl) (fields_last (opens_i64 Try.underlying3) (by rfl) (by kernel_rfl))))
end Go.Proofs.Ytbkmohnmciojpaa.P

-- YtbkmohnmciojpaaStTelemetryThinnedIsNear
set_option linter.unusedVariables false
namespace Go.Proofs.Ytbkmohnmciojpaa.P
open Go.RowKit Go.Proofs.Ytbkmohnmciojpaa.Open Go.Proofs.Ytbkmohnmciojpaa.P Go.Proofs.YtbkmohnmciojpaaW.PrintWords Go.Proofs.YtbkmohnmciojpaaW.PrintLast Go.Proofs.YtbkmohnmciojpaaW.PrintMore

/-- THE PURE STATEMENT -/
def perigeelaw7_TelemetryThinnedIsNear.Law : Prop := ∀ (l0 : List (S28)) (a1 : Int), (OkL 16 ok28) l0 → OkI a1 → ∃ k, perigeelaw7_TelemetryThinnedIsNear.f k l0 a1 = some true
end Go.Proofs.Ytbkmohnmciojpaa.P

-- YtbkmohnmciojpaaPureTelemetryThinnedIsNear
set_option linter.unusedVariables false
set_option linter.unusedSimpArgs false
namespace Go.Proofs.Ytbkmohnmciojpaa.Pure
open Go.RowKit Go.Proofs.Ytbkmohnmciojpaa.Open Go.Proofs.Ytbkmohnmciojpaa.P Go.Proofs.YtbkmohnmciojpaaW.PrintWords Go.Proofs.YtbkmohnmciojpaaW.PrintLast Go.Proofs.YtbkmohnmciojpaaW.PrintMore

theorem t_w64 {x : Int} (h : -9223372036854775808 ≤ x) (h' : x ≤ 9223372036854775807) : wrap64 x = x := by unfold wrap64; omega
theorem t_yes {α : Type} {c : Prop} {hd : Decidable c} {g g' : Nat → Option α} {r : α} (h : c) (e : Ev g r) : Ev (fun k => if c then g k else g' k) r := by
  simp only [if_pos h]; exact e
theorem t_no {α : Type} {c : Prop} {hd : Decidable c} {g g' : Nat → Option α} {r : α} (h : ¬ c) (e : Ev g' r) : Ev (fun k => if c then g k else g' k) r := by
  simp only [if_neg h]; exact e
theorem t_in (a l h : Int) : kit_In.f a l h = some (decide (l ≤ a ∧ a ≤ h)) := by
  unfold kit_In.f
  by_cases h1 : l ≤ a <;> simp [h1]
theorem t_within (a l h : Int) : perigeeref7_within.f a l h = some (decide (l ≤ a ∧ a ≤ h)) := by
  unfold perigeeref7_within.f
  by_cases h1 : l ≤ a <;> simp [h1]

/-- one moment is in its ranges -/
def Fine (v : S28) : Prop := (0 ≤ v.f0 ∧ v.f0 ≤ 1000000000000) ∧ (-1000000000 ≤ v.f1 ∧ v.f1 ≤ 1000000000)
instance (v : S28) : Decidable (Fine v) := by unfold Fine; infer_instance
/-- the fault of moments behind one -/
def ck : Option Int → List S28 → Int
  | _, [] => 0
  | p, v :: t => if Fine v then (if (∃ q, p = some q ∧ v.f0 ≤ q) then 8 else ck (some v.f0) t) else 1
instance (p : Option Int) (v : Int) : Decidable (∃ q, p = some q ∧ v ≤ q) := by
  cases p with
  | none => exact isFalse (by simp)
  | some q => exact decidable_of_iff (v ≤ q) (by simp)

/-- what is left of moments behind a value -/
def thn (w : Int) : Option Int → List S28 → List S28
  | _, [] => []
  | none, v :: t => v :: thn w (some v.f1) t
  | some u, v :: t => if v.f1 - u > w ∨ u - v.f1 > w then v :: thn w (some v.f1) t else thn w (some u) t

theorem thn_mem (w : Int) : ∀ (l : List S28) (p : Option Int), ∀ z ∈ thn w p l, z ∈ l := by
  intro l
  induction l with
  | nil => intro p z h; cases p <;> simp [thn] at h
  | cons v t ih =>
    intro p z h
    cases p with
    | none =>
      simp only [thn] at h
      rcases List.mem_cons.1 h with rfl | h
      · simp
      · exact List.mem_cons_of_mem _ (ih _ z h)
    | some u =>
      simp only [thn] at h
      split at h
      · rcases List.mem_cons.1 h with rfl | h
        · simp
        · exact List.mem_cons_of_mem _ (ih _ z h)
      · exact List.mem_cons_of_mem _ (ih _ z h)
theorem thn_len (w : Int) : ∀ (l : List S28) (p : Option Int), (thn w p l).length ≤ l.length := by
  intro l
  induction l with
  | nil => intro p; cases p <;> simp [thn]
  | cons v t ih =>
    intro p
    cases p with
    | none => simp only [thn, List.length_cons]; have := ih (some v.f1); omega
    | some u =>
      simp only [thn]
      split
      · simp only [List.length_cons]; have := ih (some v.f1); omega
      · simp only [List.length_cons]; have := ih (some u); omega
/-- they are in order, and in their ranges -/
theorem ck_sorted : ∀ (l : List S28) (p : Option Int), ck p l = 0 → (∀ q, p = some q → ∀ z ∈ l, q < z.f0) ∧ (∀ z ∈ l, Fine z) := by
  intro l
  induction l with
  | nil => intro p _; simp
  | cons v t ih =>
    intro p h
    simp only [ck] at h
    split at h
    · rename_i hv
      split at h
      · omega
      · rename_i hp
        obtain ⟨h1, h2⟩ := ih _ h
        have h3 := h1 v.f0 rfl
        constructor
        · intro q hq z hz
          have : ¬ v.f0 ≤ q := fun hc => hp ⟨q, hq, hc⟩
          rcases List.mem_cons.1 hz with rfl | hz
          · omega
          · have := h3 z hz
            omega
        · intro z hz
          rcases List.mem_cons.1 hz with rfl | hz
          · exact hv
          · exact h2 z hz
    · omega
theorem ck_tail {v : S28} {t : List S28} {p : Option Int} (h : ck p (v :: t) = 0) : ck (some v.f0) t = 0 := by
  simp only [ck] at h
  split at h
  · split at h
    · omega
    · exact h
  · omega
theorem ck_val : ∀ (l : List S28) (p : Option Int), ck p l = 0 ∨ ck p l = 1 ∨ ck p l = 8 := by
  intro l
  induction l with
  | nil => intro p; simp [ck]
  | cons v t ih =>
    intro p
    simp only [ck]
    split
    · split
      · simp
      · exact ih _
    · simp

def lastOf (l : List S28) : Option Int := l.getLast?.map (·.f1)
def prevOf (l : List S28) : Option Int := l.getLast?.map (·.f0)
theorem last_snoc (l : List S28) (v : S28) : lastOf (l ++ [v]) = some v.f1 := by simp [lastOf]
theorem prev_snoc (l : List S28) (v : S28) : prevOf (l ++ [v]) = some v.f0 := by simp [prevOf]

theorem rd_mid28 (a b : List S28) (x : S28) (i : Int) (h : i = a.length) : rd_T28 (a ++ x :: b) i = x := by
  subst h; simp [rd_T28]
theorem rd_last28 {a : List S28} {u : Int} (b : List S28) (h : lastOf a = some u) : (rd_T28 (a ++ b) (a.length - 1)).f1 = u ∧ 0 < a.length := by
  rcases List.eq_nil_or_concat a with rfl | ⟨c, x, rfl⟩
  · simp [lastOf] at h
  · simp only [List.concat_eq_append] at h ⊢
    rw [last_snoc] at h
    refine ⟨?_, by simp⟩
    rw [List.append_assoc, List.singleton_append, rd_mid28 _ _ _ _ (by simp only [List.length_append, List.length_cons, List.length_nil]; omega)]
    injection h

theorem thin_ev (w : Int) (x48 : List S28) (hx : x48.length ≤ 5000) (hf : ∀ z ∈ x48, Fine z) : ∀ (rest pre out : List S28), x48 = pre ++ rest → (pre = [] ↔ out = []) → (∀ z ∈ out, z ∈ x48) → out.length ≤ pre.length →
    Ev (fun k => telemetry_Thinned.l1 k w out x48 (x48.length : Int) pre.length) (out ++ thn w (lastOf out) rest, 0) ∧ Ev (fun k => perigeeref7_Thinned.l1 k w out x48 (x48.length : Int) pre.length) (out ++ thn w (lastOf out) rest, 0) := by
  intro rest
  induction rest with
  | nil =>
    intro pre out he hp hm hl
    have hl : x48.length = pre.length := by rw [he]; simp
    have : thn w (lastOf out) [] = [] := by cases lastOf out <;> simp [thn]
    rw [this, List.append_nil]
    constructor
    · refine Ev.step (fun k => by rw [telemetry_Thinned.l1]) ?_
      exact t_no (by omega) (Ev.now _)
    · refine Ev.step (fun k => by rw [perigeeref7_Thinned.l1]) ?_
      exact t_no (by omega) (Ev.now _)
  | cons v t ih =>
    intro pre out he hp hm hl
    have hlen : x48.length = pre.length + (t.length + 1) := by rw [he]; simp
    have hv : v ∈ x48 := by rw [he]; simp
    have hfv := hf v hv
    have hrd : rd_T28 x48 pre.length = v := by rw [he]; exact rd_mid28 _ _ _ _ rfl
    have hout : out.length ≤ 5000 := by omega
    have hcons : (⟨v.f0, v.f1⟩ : S28) = v := rfl
    have keep := ih (pre ++ [v]) (out ++ [v]) (by rw [he]; simp) (by simp) (by
      intro z hz
      rcases List.mem_append.1 hz with hz | hz
      · exact hm z hz
      · simp at hz; subst hz; exact hv) (by simp; omega)
    rw [last_snoc, List.append_assoc, List.singleton_append] at keep
    simp only [List.length_append, List.length_cons, List.length_nil] at keep
    have ecast : ((pre.length + (0 + 1) : Nat) : Int) = (pre.length : Int) + 1 := by omega
    rw [ecast] at keep
    rcases List.eq_nil_or_concat out with h0 | ⟨c, x, h0⟩
    · have hpre := hp.2 h0
      subst h0
      have e : thn w (lastOf []) (v :: t) = v :: thn w (some v.f1) t := by simp [lastOf, thn]
      rw [e]
      constructor
      · refine Ev.step (fun k => by rw [telemetry_Thinned.l1]) ?_
        rw [hrd, hcons]
        refine t_yes (by omega) (t_yes (by omega) (t_yes (by omega) (t_yes (by rw [hpre]; rfl) (t_yes (by simp) ?_))))
        rw [t_w64 (x := (pre.length : Int) + 1) (by omega) (by omega)]
        exact keep.1
      · refine Ev.step (fun k => by rw [perigeeref7_Thinned.l1]) ?_
        rw [hrd, hcons]
        refine t_yes (by omega) (t_yes (by omega) (t_yes (by omega) (t_yes (by simp) (t_yes (by simp) ?_))))
        rw [t_w64 (x := (pre.length : Int) + 1) (by omega) (by omega)]
        exact keep.2
    · simp only [List.concat_eq_append] at h0
      have hu : lastOf out = some x.f1 := by rw [h0, last_snoc]
      have hfx := hf x (hm x (by rw [h0]; simp))
      have hrl := rd_last28 (a := out) [] hu
      rw [List.append_nil] at hrl
      have hpn : pre ≠ [] := fun h => by have := hp.1 h; rw [this] at h0; simp at h0
      have hpp : 0 < pre.length := List.length_pos_iff.2 hpn
      have h1 := hfv.2
      have h2 := hfx.2
      rw [hu]
      have hw1 : wrap64 ((out.length : Int) - 1) = (out.length : Int) - 1 := t_w64 (by omega) (by omega)
      have hw2 : wrap64 (v.f1 - x.f1) = v.f1 - x.f1 := t_w64 (by omega) (by omega)
      have hw3 : wrap64 (x.f1 - v.f1) = x.f1 - v.f1 := t_w64 (by omega) (by omega)
      have drop := ih (pre ++ [v]) out (by rw [he]; simp) (by rw [h0]; simp) hm (by simp; omega)
      rw [hu] at drop
      simp only [List.length_append, List.length_cons, List.length_nil] at drop
      rw [ecast] at drop
      constructor
      · refine Ev.step (fun k => by rw [telemetry_Thinned.l1]) ?_
        rw [hrd, hcons, hw1, hrl.1, hw2, hw3, t_w64 (x := (pre.length : Int) + 1) (by omega) (by omega)]
        refine t_yes (by omega) (t_yes (by omega) (t_yes (by omega) (t_no (by omega) (t_yes (by omega) (t_yes (by omega) ?_)))))
        by_cases hc : v.f1 - x.f1 > w ∨ x.f1 - v.f1 > w
        · simp only [thn, if_pos hc]
          exact t_yes (by unfold mx; omega) (t_yes (by omega) keep.1)
        · simp only [thn, if_neg hc]
          exact t_no (by unfold mx; omega) drop.1
      · refine Ev.step (fun k => by rw [perigeeref7_Thinned.l1]) ?_
        rw [hrd, hcons, hw1, hrl.1, hw2, hw3, t_w64 (x := (pre.length : Int) + 1) (by omega) (by omega)]
        refine t_yes (by omega) (t_yes (by omega) (t_yes (by omega) (t_no (by omega) (t_yes (by omega) (t_yes (by omega) ?_)))))
        by_cases hc : v.f1 - x.f1 > w ∨ x.f1 - v.f1 > w
        · simp only [thn, if_pos hc]
          by_cases hc1 : v.f1 - x.f1 > w
          · exact t_yes hc1 (t_yes (by omega) keep.2)
          · exact t_no hc1 (t_yes (by omega) (t_yes (by omega) keep.2))
        · simp only [thn, if_neg hc]
          exact t_no (by omega) (t_no (by omega) drop.2)

/-- the whole answer -/
def ans (l : List S28) (w : Int) : List S28 × Int :=
  if l.length > 5000 then ([], 2) else if ck none l ≠ 0 then ([], ck none l) else if 0 ≤ w ∧ w ≤ 1000000000 then (thn w none l, 0) else ([], 1)

theorem check_ev (w : Int) (x0 : List S28) (hx : x0.length ≤ 5000) : ∀ (rest pre : List S28), x0 = pre ++ rest → ck none x0 = ck (prevOf pre) rest →
    Ev (fun k => telemetry_Thinned.l0 k x0 w x0 (x0.length : Int) pre.length) (if ck none x0 ≠ 0 then ([], ck none x0) else if 0 ≤ w ∧ w ≤ 1000000000 then (thn w none x0, 0) else ([], 1)) ∧
    Ev (fun k => perigeeref7_Thinned.l0 k x0 w x0 (x0.length : Int) pre.length) (if ck none x0 ≠ 0 then ([], ck none x0) else if 0 ≤ w ∧ w ≤ 1000000000 then (thn w none x0, 0) else ([], 1)) := by
  intro rest
  induction rest with
  | nil =>
    intro pre he hck
    have hl : x0.length = pre.length := by rw [he]; simp
    have h0 : ck none x0 = 0 := by rw [hck]; simp [ck]
    have hf := (ck_sorted x0 none h0).2
    have ht := thin_ev w x0 hx hf x0 [] [] (by simp) (by simp) (by simp) (by simp)
    simp only [List.nil_append, List.length_nil] at ht
    rw [if_neg (by omega)]
    constructor
    · refine Ev.step (fun k => by rw [telemetry_Thinned.l0]) ?_
      refine t_no (by omega) ?_
      rw [t_in]
      simp only [Option.bind_some]
      by_cases hw : 0 ≤ w ∧ w ≤ 1000000000
      · rw [if_pos hw]
        exact t_yes (by simpa using hw) ht.1
      · rw [if_neg hw]
        exact t_no (by simpa using hw) (Ev.now _)
    · refine Ev.step (fun k => by rw [perigeeref7_Thinned.l0]) ?_
      refine t_no (by omega) ?_
      rw [t_within]
      simp only [Option.bind_some]
      by_cases hw : 0 ≤ w ∧ w ≤ 1000000000
      · rw [if_pos hw]
        exact t_yes (by simpa using hw) ht.2
      · rw [if_neg hw]
        exact t_no (by simpa using hw) (Ev.now _)
  | cons v t ih =>
    intro pre he hck
    have hlen : x0.length = pre.length + (t.length + 1) := by rw [he]; simp
    have hrd : rd_T28 x0 pre.length = v := by rw [he]; exact rd_mid28 _ _ _ _ rfl
    have ecast : ((pre.length + (0 + 1) : Nat) : Int) = (pre.length : Int) + 1 := by omega
    have hin : ∀ (b : Bool), b = decide (Fine v) → (if Fine v then True else True) := fun _ _ => by split <;> trivial
    -- the two tests behind the ranges
    by_cases hf : Fine v
    · rcases List.eq_nil_or_concat pre with h0 | ⟨c, x, h0⟩
      · have hck2 : ck none x0 = ck (prevOf (pre ++ [v])) t := by
          rw [hck, prev_snoc, h0]
          simp [ck, hf, prevOf]
        have := ih (pre ++ [v]) (by rw [he]; simp) hck2
        simp only [List.length_append, List.length_cons, List.length_nil] at this
        rw [ecast] at this
        constructor
        · refine Ev.step (fun k => by rw [telemetry_Thinned.l0]) ?_
          rw [hrd, t_in, t_in]
          refine t_yes (by omega) (t_yes (by omega) (t_yes (by omega) ?_))
          simp only [Option.bind_some]
          refine t_yes (by simpa using hf.1) ?_
          refine Ev.step (fun k => by rw [telemetry_Thinned.j1]) ?_
          refine t_no (by simpa using hf.2) (t_no (by rw [h0]; simp) ?_)
          rw [t_w64 (x := (pre.length : Int) + 1) (by omega) (by omega)]
          exact this.1
        · refine Ev.step (fun k => by rw [perigeeref7_Thinned.l0]) ?_
          rw [hrd, t_within, t_within]
          refine t_yes (by omega) (t_yes (by omega) (t_yes (by omega) ?_))
          simp only [Option.bind_some]
          refine t_yes (by simpa using hf.1) ?_
          refine Ev.step (fun k => by rw [perigeeref7_Thinned.j1]) ?_
          refine t_no (by simpa using hf.2) (t_no (by rw [h0]; simp) ?_)
          rw [t_w64 (x := (pre.length : Int) + 1) (by omega) (by omega)]
          exact this.2
      · simp only [List.concat_eq_append] at h0
        have hpl : 0 < pre.length := by rw [h0]; simp
        have hrx : rd_T28 x0 ((pre.length : Int) - 1) = x := by
          rw [he, h0, List.append_assoc, List.singleton_append]
          exact rd_mid28 _ _ _ _ (by simp only [List.length_append, List.length_cons, List.length_nil]; omega)
        have hw1 : wrap64 ((pre.length : Int) - 1) = (pre.length : Int) - 1 := t_w64 (by omega) (by omega)
        by_cases hle : v.f0 ≤ x.f0
        · have hck8 : ck none x0 = 8 := by
            rw [hck, h0, prev_snoc]
            simp [ck, hf, hle]
          rw [hck8]
          constructor
          · refine Ev.step (fun k => by rw [telemetry_Thinned.l0]) ?_
            rw [hrd, t_in, t_in]
            refine t_yes (by omega) (t_yes (by omega) (t_yes (by omega) ?_))
            simp only [Option.bind_some]
            refine t_yes (by simpa using hf.1) ?_
            refine Ev.step (fun k => by rw [telemetry_Thinned.j1]) ?_
            rw [hw1, hrx]
            exact t_no (by simpa using hf.2) (t_yes (by omega) (t_yes (by omega) (t_yes (by omega) (t_yes hle (Ev.now _)))))
          · refine Ev.step (fun k => by rw [perigeeref7_Thinned.l0]) ?_
            rw [hrd, t_within, t_within]
            refine t_yes (by omega) (t_yes (by omega) (t_yes (by omega) ?_))
            simp only [Option.bind_some]
            refine t_yes (by simpa using hf.1) ?_
            refine Ev.step (fun k => by rw [perigeeref7_Thinned.j1]) ?_
            rw [hw1, hrx]
            exact t_no (by simpa using hf.2) (t_yes (by omega) (t_yes (by omega) (t_yes (by omega) (t_yes hle (Ev.now _)))))
        · have hck2 : ck none x0 = ck (prevOf (pre ++ [v])) t := by
            rw [hck, prev_snoc, h0, prev_snoc]
            simp [ck, hf, hle]
          have := ih (pre ++ [v]) (by rw [he]; simp) hck2
          simp only [List.length_append, List.length_cons, List.length_nil] at this
          rw [ecast] at this
          constructor
          · refine Ev.step (fun k => by rw [telemetry_Thinned.l0]) ?_
            rw [hrd, t_in, t_in]
            refine t_yes (by omega) (t_yes (by omega) (t_yes (by omega) ?_))
            simp only [Option.bind_some]
            refine t_yes (by simpa using hf.1) ?_
            refine Ev.step (fun k => by rw [telemetry_Thinned.j1]) ?_
            rw [hw1, hrx, t_w64 (x := (pre.length : Int) + 1) (by omega) (by omega)]
            exact t_no (by simpa using hf.2) (t_yes (by omega) (t_yes (by omega) (t_yes (by omega) (t_no hle this.1))))
          · refine Ev.step (fun k => by rw [perigeeref7_Thinned.l0]) ?_
            rw [hrd, t_within, t_within]
            refine t_yes (by omega) (t_yes (by omega) (t_yes (by omega) ?_))
            simp only [Option.bind_some]
            refine t_yes (by simpa using hf.1) ?_
            refine Ev.step (fun k => by rw [perigeeref7_Thinned.j1]) ?_
            rw [hw1, hrx, t_w64 (x := (pre.length : Int) + 1) (by omega) (by omega)]
            exact t_no (by simpa using hf.2) (t_yes (by omega) (t_yes (by omega) (t_yes (by omega) (t_no hle this.2))))
    · have hck1 : ck none x0 = 1 := by
        rw [hck]
        simp [ck, hf]
      rw [hck1]
      constructor
      · refine Ev.step (fun k => by rw [telemetry_Thinned.l0]) ?_
        rw [hrd, t_in, t_in]
        refine t_yes (by omega) (t_yes (by omega) (t_yes (by omega) ?_))
        simp only [Option.bind_some]
        by_cases h1 : 0 ≤ v.f0 ∧ v.f0 ≤ 1000000000000
        · refine t_yes (by simpa using h1) ?_
          refine Ev.step (fun k => by rw [telemetry_Thinned.j1]) ?_
          exact t_yes (by simp only [Bool.not_eq_true', decide_eq_false_iff_not]; exact fun h2 => hf ⟨h1, h2⟩) (Ev.now _)
        · refine t_no (by simpa using h1) ?_
          refine Ev.step (fun k => by rw [telemetry_Thinned.j1]) ?_
          exact t_yes rfl (Ev.now _)
      · refine Ev.step (fun k => by rw [perigeeref7_Thinned.l0]) ?_
        rw [hrd, t_within, t_within]
        refine t_yes (by omega) (t_yes (by omega) (t_yes (by omega) ?_))
        simp only [Option.bind_some]
        by_cases h1 : 0 ≤ v.f0 ∧ v.f0 ≤ 1000000000000
        · refine t_yes (by simpa using h1) ?_
          refine Ev.step (fun k => by rw [perigeeref7_Thinned.j1]) ?_
          exact t_yes (by simp only [Bool.not_eq_true', decide_eq_false_iff_not]; exact fun h2 => hf ⟨h1, h2⟩) (Ev.now _)
        · refine t_no (by simpa using h1) ?_
          refine Ev.step (fun k => by rw [perigeeref7_Thinned.j1]) ?_
          exact t_yes rfl (Ev.now _)

theorem both_ev (l : List S28) (w : Int) (hl : l.length ≤ 9223372036854775807) : Ev (fun k => telemetry_Thinned.f k l w) (ans l w) ∧ Ev (fun k => perigeeref7_Thinned.f k l w) (ans l w) := by
  unfold telemetry_Thinned.f perigeeref7_Thinned.f ans
  by_cases h : l.length > 5000
  · rw [if_pos h]
    exact ⟨t_yes (by omega) (Ev.now _), t_yes (by omega) (Ev.now _)⟩
  · rw [if_neg h]
    have := check_ev w l (by omega) l [] (by simp) (by simp [prevOf])
    simp only [List.length_nil] at this
    exact ⟨t_no (by omega) this.1, t_no (by omega) this.2⟩

theorem same_ev (x : List S28) (hx : x.length ≤ 5000) : Ev (fun k => api_Moment.f k x x) true := by
  have : ∀ (d i : Nat), i + d = x.length → Ev (fun k => api_Moment.l0 k x x (x.length : Int) i) true := by
    intro d
    induction d with
    | zero =>
      intro i hi
      refine Ev.step (fun k => by rw [api_Moment.l0]) ?_
      exact t_no (by omega) (Ev.now _)
    | succ d ih =>
      intro i hi
      refine Ev.step (fun k => by rw [api_Moment.l0]) ?_
      rw [t_w64 (x := (i : Int) + 1) (by omega) (by omega)]
      exact t_yes (by omega) (t_yes (by omega) (t_yes (by omega) (t_yes (by omega) (t_no (by simp) (ih (i + 1) (by omega))))))
  unfold api_Moment.f
  exact t_yes rfl (this x.length 0 (by omega))

theorem t_awake : Ev (fun k => perigeelaw7_awake.f k) true := by
  have h : perigeelaw7_awake.f 40 = some true := by decide +kernel
  exact Ev.of perigeelaw7_awake.mono h

theorem near_ev (w : Int) (x38 x5 : List S28) (hx : x38.length ≤ 5000) (h5 : x5.length ≤ 5000) (hf : ∀ z ∈ x38, Fine z) (hw : 0 ≤ w ∧ w ≤ 1000000000) : ∀ (rest pre out : List S28), x38 = pre ++ rest → x5 = out ++ thn w (lastOf out) rest →
    (∀ p, ck p rest = 0 ∨ True) → (∃ p, ck p rest = 0) → (∀ z ∈ out, z ∈ x38) → ∀ k : Int, k = (if out = [] then 0 else (out.length : Int) - 1) →
    Ev (fun n => perigeelaw7_TelemetryThinnedIsNear.l0 n w x5 0 k x38 (x38.length : Int) pre.length) true := by
  intro rest
  induction rest with
  | nil =>
    intro pre out he h5e _ _ _ k hk
    have hl : x38.length = pre.length := by rw [he]; simp
    refine Ev.step (fun k => by rw [perigeelaw7_TelemetryThinnedIsNear.l0]) ?_
    exact t_no (by omega) (Ev.now _)
  | cons v t ih =>
    intro pre out he h5e _ ⟨p, hp⟩ hm k hk
    have hlen : x38.length = pre.length + (t.length + 1) := by rw [he]; simp
    have hrd : rd_T28 x38 pre.length = v := by rw [he]; exact rd_mid28 _ _ _ _ rfl
    have hv : v ∈ x38 := by rw [he]; simp
    have hfv := (hf v hv).2
    have ht := ck_tail hp
    have hgt := (ck_sorted t _ ht).1 v.f0 rfl
    have ecast : ((pre.length + (0 + 1) : Nat) : Int) = (pre.length : Int) + 1 := by omega
    -- behind the value: the last round of the inner loop
    have stop : ∀ (o' : List S28) (u : S28) (k' : Int), x5 = o' ++ u :: thn w (some u.f1) t → u ∈ x38 → (∀ z ∈ o', z ∈ x38) → k' = o'.length → v.f1 - u.f1 ≤ w → u.f1 - v.f1 ≤ w →
        Ev (fun n => perigeelaw7_TelemetryThinnedIsNear.l1 n w x5 0 k' x38 (x38.length : Int) pre.length v.f0 v.f1) true := by
      intro o' u k' hxe hu ho hk' h1 h2
      have hfu := (hf u hu).2
      have hl5 : x5.length = o'.length + ((thn w (some u.f1) t).length + 1) := by rw [hxe]; simp
      have next := ih (pre ++ [v]) (o' ++ [u]) (by rw [he]; simp) (by rw [hxe, last_snoc]; simp) (fun _ => .inr trivial) ⟨_, ht⟩ (by
        intro z hz
        rcases List.mem_append.1 hz with hz | hz
        · exact ho z hz
        · simp at hz; subst hz; exact hu) k' (by simp; omega)
      simp only [List.length_append, List.length_cons, List.length_nil] at next
      rw [ecast] at next
      have hru : rd_T28 x5 k' = u := by rw [hxe]; exact rd_mid28 _ _ _ _ hk'
      have e1 : wrap64 (k' + 1) = k' + 1 := t_w64 (by omega) (by omega)
      have e2 : wrap64 (v.f1 - u.f1) = v.f1 - u.f1 := t_w64 (by omega) (by omega)
      have e3 : wrap64 (-(v.f1 - u.f1)) = -(v.f1 - u.f1) := t_w64 (by omega) (by omega)
      have e4 : wrap64 ((pre.length : Int) + 1) = (pre.length : Int) + 1 := t_w64 (by omega) (by omega)
      refine Ev.step (fun k => by rw [perigeelaw7_TelemetryThinnedIsNear.l1]) ?_
      rw [e1, hru, e2, e3, e4]
      by_cases hlt : k' + 1 < (x5.length : Int)
      · refine t_yes hlt (t_yes (by omega) (t_no ?_ (t_yes (by omega) (t_yes (by omega) (t_no (by omega) (t_no (by omega) next))))))
        obtain ⟨z, r, hz⟩ : ∃ z r, thn w (some u.f1) t = z :: r := by
          cases h : thn w (some u.f1) t with
          | nil => rw [h] at hl5; simp at hl5; omega
          | cons z r => exact ⟨z, r, rfl⟩
        have hrz : rd_T28 x5 (k' + 1) = z := by
          rw [hxe, hz, List.append_cons]
          exact rd_mid28 _ _ _ _ (by simp only [List.length_append, List.length_cons, List.length_nil]; omega)
        have := hgt z (thn_mem w t _ z (by rw [hz]; simp))
        rw [hrz]
        omega
      · exact t_no hlt (t_yes (by omega) (t_yes (by omega) (t_no (by omega) (t_no (by omega) next))))
    refine Ev.step (fun k => by rw [perigeelaw7_TelemetryThinnedIsNear.l0]) ?_
    rw [hrd]
    refine t_yes (by omega) (t_yes (by omega) (t_yes (by omega) (t_yes rfl ?_)))
    rcases List.eq_nil_or_concat out with h0 | ⟨c, x, h0⟩
    · subst h0
      have e : thn w (lastOf []) (v :: t) = v :: thn w (some v.f1) t := by simp [lastOf, thn]
      rw [e] at h5e
      exact stop [] v k h5e hv (by simp) (by rw [hk]; simp) (by omega) (by omega)
    · simp only [List.concat_eq_append] at h0
      have hu : lastOf out = some x.f1 := by rw [h0, last_snoc]
      have hxm := hm x (by rw [h0]; simp)
      have hcm : ∀ z ∈ c, z ∈ x38 := fun z hz => hm z (by rw [h0]; simp [hz])
      rw [if_neg (by rw [h0]; simp)] at hk
      rw [hu] at h5e
      have hol : out.length = c.length + 1 := by rw [h0]; simp
      by_cases hc : v.f1 - x.f1 > w ∨ x.f1 - v.f1 > w
      · simp only [thn, if_pos hc] at h5e
        have hl5 : x5.length = out.length + ((thn w (some v.f1) t).length + 1) := by rw [h5e]; simp
        have hrv : rd_T28 x5 (k + 1) = v := by rw [h5e]; exact rd_mid28 _ _ _ _ (by omega)
        refine Ev.step (fun k => by rw [perigeelaw7_TelemetryThinnedIsNear.l1]) ?_
        rw [t_w64 (x := k + 1) (by omega) (by omega), hrv]
        refine t_yes (by omega) (t_yes (by omega) (t_yes (by omega) ?_))
        exact stop out v (k + 1) h5e hv hm (by omega) (by omega) (by omega)
      · simp only [thn, if_neg hc] at h5e
        exact stop c x k (by rw [h5e, h0]; simp) hxm hcm (by omega) (by omega) (by omega)

theorem TelemetryThinnedIsNear : perigeelaw7_TelemetryThinnedIsNear.Law := by
  intro l w ⟨hl, _, _⟩ hwi
  refine Ev.rounds (g := fun k => perigeelaw7_TelemetryThinnedIsNear.f k l w) ?_
  obtain ⟨h1, h2⟩ := both_ev l w hl
  have h5 : (ans l w).1.length ≤ 5000 ∧ (l.length > 5000 → (ans l w).2 ≠ 0) := by
    unfold ans
    split
    · simp
    · split
      · simp; omega
      · split
        · have := thn_len w l none; simp; omega
        · simp
  unfold perigeelaw7_TelemetryThinnedIsNear.f
  refine Ev.bind h1 (Ev.bind h2 (t_yes rfl (Ev.bind (same_ev _ h5.1) (t_yes rfl (Ev.bind t_awake ?_)))))
  refine Ev.step (fun k => by rw [perigeelaw7_TelemetryThinnedIsNear.j0]) ?_
  refine t_no (by simp) ?_
  by_cases hz : (ans l w).2 = 0
  · have hln : ¬ l.length > 5000 := fun h => h5.2 h hz
    unfold ans at hz ⊢
    rw [if_neg hln] at hz ⊢
    by_cases hc : ck none l = 0
    · rw [if_neg (by simpa using hc)] at hz ⊢
      by_cases hw : 0 ≤ w ∧ w ≤ 1000000000
      · rw [if_pos hw]
        have := near_ev w l (thn w none l) (by omega) (by have := thn_len w l none; omega) (ck_sorted l none hc).2 hw l [] [] (by simp) (by simp [lastOf]) (fun _ => .inr trivial) ⟨none, hc⟩ (by simp) 0 (by simp)
        simpa using this
      · rw [if_neg hw] at hz
        simp at hz
    · rw [if_pos hc] at hz
      exact absurd hz hc
  · refine Ev.step (fun k => by rw [perigeelaw7_TelemetryThinnedIsNear.l0]) ?_
    by_cases h : (0 : Int) < l.length
    · exact t_yes h (t_yes (by omega) (t_yes h (t_no hz (Ev.now _))))
    · exact t_no h (Ev.now _)

end Go.Proofs.Ytbkmohnmciojpaa.Pure

-- YtbkmohnmciojpaaLawTelemetryThinnedIsNear
namespace Go.Proofs.Ytbkmohnmciojpaa.telemetryThinnedIsNear
open Go.ChangeShapes Go.WideShapes Go.ChangeAt Go.RowKit Go.Proofs.Ytbkmohnmciojpaa.Open Go.Proofs.Ytbkmohnmciojpaa.P
open Go.ChangeMaps (open_string shut_string)
set_option linter.unusedVariables false
theorem own : ownKnob Try.prog.godebug = none := by kernel_rfl
theorem laidOut : laidOutB Try.prog = true := by kernel_rfl
set_option maxRecDepth 100000 in
theorem lifted (os : Os) (started : os.Started) (H : Type) (enc : TypeId × Value → H) :
    ReturnsInHanded {} Try.checked os 3 .any (Rows.telemetryThinnedIsNearSpec.pre6 enc Try.prog Try.f3 Rows.telemetryThinnedIsNearRow.domain false) (Rows.telemetryThinnedIsNearSpec.post enc Try.prog Try.f3 false true false false) := by
  refine returnsInHanded_of_change_sized (C := Try.checked) own started (by kernel_rfl) Try.func3
    (ChangeSpec.witness6 (enc := enc) (C := Try.checked) false ⟨#[], #[.slice none 0 0, .int .i64 0], []⟩ 8 (by kernel_rfl) (by kernel_rfl) (by kernel_rfl) (by kernel_rfl)) ?_
  intro W base args ds gs before hval0 hW hcnd hsz0 _
  have hsz : (DataW.weightsEach Try.prog (Try.f3.params.toList ++ Rows.telemetryThinnedIsNearSpec.plain.varTypes Try.prog) (ds ++ gs)).all (· ≤ reachBytes) = true := hsz0
  have hval : ∀ (j : Nat) t v, Try.f3.params[j]? = some t → args[j]? = some v → Value.okWide Try.prog W .any base t v := hval0
  have hW' := hW
  obtain ⟨p, q, hA0, hV, rfl, hfz, hnd⟩ := hW
  have hA : DataW.TrodAll enc Try.prog W 0 (fun _ => true) true Try.f3.params.toList args.toList ds p := hA0
  rw [Try.params3] at hA hval hsz
  obtain ⟨v0, vs0, d0, ds0, p0, q0, hargs, rfl, rfl, h0, r0⟩ := trodAll_cons hA
  obtain ⟨v1, vs1, d1, ds1, p1, q1, rfl, rfl, rfl, h1, r1⟩ := trodAll_cons r0
  obtain ⟨rfl, rfl, rfl⟩ := trodAll_nil r1
  obtain rfl : args = #[v0, v1] := by cases args; simp_all
  obtain ⟨rfl, rfl⟩ := trodVars_none hV
  have k0 := h0
  have lt0 : ∀ x ∈ p0, x.block < W.heap.size := by obtain ⟨m, hm⟩ := k0; exact DataW.trod_lt m _ _ _ hm
  obtain ⟨A0, len0, c0, rfl⟩ := okWide_slice Try.underlying22 (hval 0 22 v0 rfl rfl)
  obtain ⟨l0, rfl, hc0, hr0, y0⟩ := param_slice (d := k28) (ok := (OkL 16 ok28)) (j := 0) hsz rfl rfl h0 (opens_slice Try.underlying22 (by kernel_rfl) (by kernel_rfl) opens28)
  have k1 := h1
  have lt1 : ∀ x ∈ p1, x.block < W.heap.size := by obtain ⟨m, hm⟩ := k1; exact DataW.trod_lt m _ _ _ hm
  obtain ⟨a1, rfl⟩ := okWide_int Try.underlying3 (hval 1 3 v1 rfl rfl)
  obtain ⟨b1, e1, y1⟩ := param_any (d := (Go.Proofs.YtbkmohnmciojpaaW.PrintWords.Kd.int .i64)) (ok := OkI) (j := 1) hsz rfl rfl h1 (opens_i64 Try.underlying3)
  obtain rfl : a1 = b1 := by simpa [Value.cells, Go.Proofs.YtbkmohnmciojpaaW.PrintWords.Kd.int, Go.Proofs.YtbkmohnmciojpaaW.PrintWords.Kd.scalar] using e1
  clear hA0 hval0 hsz0 hsz
  obtain ⟨k, hk⟩ := Pure.TelemetryThinnedIsNear l0 a1 y0 y1
  refine (perigeelaw7_TelemetryThinnedIsNear.calls (r := true) (w := W) (hr0 := hr0) (hc0 := hc0) (h := hk)).mono fun e W' ⟨he, bel0⟩ => ?_
  have bel : Below W.heap.size W W' := bel0
  subst he
  exact ⟨_, rfl, _, _, _, [], _, [], hW', trodAll_mk1 (shut_bool Try.underlying4 _), (trodAll_cons_mk (Below.trod laidOut (by kernel_rfl) (of_decide_eq_true (by kernel_rfl)) k0 bel lt0) (trodAll_cons_mk (Below.trod laidOut (by kernel_rfl) (of_decide_eq_true (by kernel_rfl)) k1 bel lt1) trodAll_mk0)), rfl, bel.frame _, fun h => by cases h⟩
theorem over : Rows.telemetryThinnedIsNearRow.holds Try.pinned (OpenSpec.ofChange Rows.telemetryThinnedIsNearSpec) :=
  OpenClaim.holds_of_wide 3 Try.f3 rfl rfl rfl rfl rfl rfl rfl ⟨rfl, rfl, rfl, rfl, rfl⟩ rfl rfl rfl rfl rfl (by kernel_rfl) Try.func3 (by kernel_rfl)
    (of_decide_eq_true (by kernel_rfl)) (by unfold Func.isWrapper; first | (rw [if_pos (by decide +kernel)]; kernel_rfl) | (rw [if_neg (by decide +kernel)]; exact ⟨rfl, rfl⟩))
    (fun os started H enc _ => lifted os started H enc)
theorem proved : Rows.TelemetryThinnedIsNearSaid := over
#print axioms proved
end Go.Proofs.Ytbkmohnmciojpaa.telemetryThinnedIsNear
namespace Go.Proofs.Ytbkmohnmciojpaa
/-- The row, under a short name, for the claim. -/
theorem telemetryThinnedIsNear_holds : Rows.TelemetryThinnedIsNearSaid := telemetryThinnedIsNear.proved
end Go.Proofs.Ytbkmohnmciojpaa
