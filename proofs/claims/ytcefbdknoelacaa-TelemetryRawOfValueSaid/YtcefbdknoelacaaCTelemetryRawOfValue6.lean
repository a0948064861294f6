/- The raw number of what a raw number means is this one, if it may be asked; no condition but the guard -/
import Derived.Below
import Derived.Carry
import Derived.ChangeArms
import Derived.ChangeOld
import Derived.ChangeSlices
import Derived.DataElems
import Derived.DataReads
import Derived.IntWalk
import Derived.Lib.RabinKarpLaws
import Derived.Lib.Strings
import Derived.OpenShut
import Derived.ProofKit
import Derived.ShutString
import Derived.SizedLaws
import Derived.Test.YtcefbdknoelacaaRows
import Derived.WalkKit
import Derived.Test.YtcefbdknoelacaaCTelemetryRawOfValue5
-- YtcefbdknoelacaaF59
namespace Go.Proofs.Ytcefbdknoelacaa.P
open Go.RowKit Go.Proofs.YtcefbdknoelacaaW.PrintWords Go.Proofs.YtcefbdknoelacaaW.PrintLast Go.Proofs.YtcefbdknoelacaaW.PrintMore
attribute [local go_sem] max2_int min2_int max_two min_two max_three min_three max_four min_four Go.Proofs.Ytcefbdknoelacaa.Strs.leqS Go.Proofs.Ytcefbdknoelacaa.Strs.gtrS Go.Proofs.Ytcefbdknoelacaa.Strs.geqS   -- for this text's walks alone
set_option linter.unusedVariables false
set_option linter.unusedSimpArgs false

attribute [local go_sem high] eqA24
def perigeelaw7_TelemetryRawOfValue.f (k : Nat) (l0 : List (S44)) (a1 : ByteArray) (a2 : Int) : Option (Bool) := (telemetry_Value.f k l0 a1 a2).bind fun bt432 => (if bt432.2.2.2 = 0 then ((telemetry_Raw.f k l0 a1 bt432.1 bt432.2.1).bind fun bt437 => (if bt437.2.2 = 1 then ((perigeelaw7_awake.f k).bind fun t440 => (some t440)) else (if bt437.2.2 = 0 then (if bt437.2.1 = true then (if bt437.1 = a2 then ((perigeelaw7_awake.f k).bind fun t441 => (some t441)) else (some false)) else ((perigeelaw7_awake.f k).bind fun t442 => (some t442))) else (some false)))) else (if (bt432.1 == 0 && (bt432.2.1 == 0)) = true then ((perigeelaw7_awake.f k).bind fun t443 => (some t443)) else (some false)))
set_option maxHeartbeats 8000000 in
set_option maxRecDepth 100000 in
theorem perigeelaw7_TelemetryRawOfValue.calls (k : Nat) (A0 : Option Addr) (c0 : Nat) (l0 : List (S44)) (a1 : ByteArray) (a2 : Int) (r : Bool) (w : World) (hr0 : Kd.C k44 w A0 l0.length l0) (hc0 : l0.length ≤ c0) (h : perigeelaw7_TelemetryRawOfValue.f k l0 a1 a2 = some r) :
 Calls Try.prog 6 #[.slice A0 l0.length c0, .string a1, .int .i64 a2] w fun e w' => e = .returned (.bool r) ∧ Below w.heap.size w w' := by
 have hu24 := Try.underlying24
 have HR0 := Aside0.mk hr0
 have HC0 := Aside0.mk hc0
 clear hr0 hc0
 have HB := Aside0.mk (Below.refl w.heap.size w)
 have H : ((telemetry_Value.f k l0 a1 a2).bind fun bt432 => (if bt432.2.2.2 = 0 then ((telemetry_Raw.f k l0 a1 bt432.1 bt432.2.1).bind fun bt437 => (if bt437.2.2 = 1 then ((perigeelaw7_awake.f k).bind fun t440 => (some t440)) else (if bt437.2.2 = 0 then (if bt437.2.1 = true then (if bt437.1 = a2 then ((perigeelaw7_awake.f k).bind fun t441 => (some t441)) else (some false)) else ((perigeelaw7_awake.f k).bind fun t442 => (some t442))) else (some false)))) else (if (bt432.1 == 0 && (bt432.2.1 == 0)) = true then ((perigeelaw7_awake.f k).bind fun t443 => (some t443)) else (some false)))) = some r := h
 clear h
 replace H := Option.bind_eq_some_iff.mp H
 obtain ⟨⟨t432, t433, t434, t435⟩, A40, H⟩ := H
 replace H : (if t435 = 0 then ((telemetry_Raw.f k l0 a1 t432 t433).bind fun bt437 => (if bt437.2.2 = 1 then ((perigeelaw7_awake.f k).bind fun t440 => (some t440)) else (if bt437.2.2 = 0 then (if bt437.2.1 = true then (if bt437.1 = a2 then ((perigeelaw7_awake.f k).bind fun t441 => (some t441)) else (some false)) else ((perigeelaw7_awake.f k).bind fun t442 => (some t442))) else (some false)))) else (if (t432 == 0 && (t433 == 0)) = true then ((perigeelaw7_awake.f k).bind fun t443 => (some t443)) else (some false))) = some r := H
 have A4 := Aside0.mk A40
 clear A40
 by_cases c5 : t435 = 0
 ·rw [if_pos c5] at H
  have c5b0 : (t435 == 0) = true := beq_iff_eq.mpr c5
  have c5b1 : (t435 != 0) = false := bne_eq_false_iff_eq.mpr c5
  clear c5
  replace H := Option.bind_eq_some_iff.mp H
  obtain ⟨⟨t437, t438, t439⟩, A60, H⟩ := H
  replace H : (if t439 = 1 then ((perigeelaw7_awake.f k).bind fun t440 => (some t440)) else (if t439 = 0 then (if t438 = true then (if t437 = a2 then ((perigeelaw7_awake.f k).bind fun t441 => (some t441)) else (some false)) else ((perigeelaw7_awake.f k).bind fun t442 => (some t442))) else (some false))) = some r := H
  have A6 := Aside0.mk A60
  clear A60
  by_cases c7 : t439 = 1
  ·rw [if_pos c7] at H
   have c7b0 : (t439 == 1) = true := beq_iff_eq.mpr c7
   have c7b1 : (t439 != 1) = false := bne_eq_false_iff_eq.mpr c7
   clear c7
   replace H := Option.bind_eq_some_iff.mp H
   obtain ⟨t440, A80, H⟩ := H
   replace H : (some t440) = some r := H
   have A8 := Aside0.mk A80
   clear A80
   obtain rfl := Option.some.inj H
   go_enter Try.func6, Try.ntmps6
   go_wp2_with (first | ((with_reducible refine gate_callee (f := 16) rfl ?_); refine goesL_ (some 16) rfl rfl Try.func16 (by kernel_rfl) rfl #[.slice A0 l0.length c0, .string a1, .int .i64 a2] rfl (by (try simp only [List.map_toArray, List.map_cons, List.map_nil]); first | done | rfl | (simp only [List.length_drop, List.length_take]; rfl)) ?_; (with_reducible refine (telemetry_Value.calls k _ _ l0 a1 a2 t432 t433 t434 t435 _ ?side1 ?side2 A4.out).mono ?_); (case side1 => repeat (first | exact HR0.out | (with_reducible refine Kd.C_alloc ?_ _) | (with_reducible refine Kd.C_drewN ?_ _) | (with_reducible refine Kd.C_drew ?_))); (case side2 => exact HC0.out); rintro e w9 ⟨rfl, hb⟩; refine ⟨_, rfl, ?_⟩; have n0_ := Aside0.mk (below_step (by repeat (first | (with_reducible first | exact HB.out | apply below_alloc | apply pw_below_drewN | apply below_drew1) | exact HB.out)) hb); clear HB; have HB := n0_; clear n0_; (try clear hb); (try clear hb2); (try clear hk); (try clear hi)) | ((with_reducible refine gate_dst (N := 7) rfl ?_); refine box_event ?hg (N := 7) ?hd (cs := #[.int .i64 0, .int .i64 0]) (t := 24) ?hr ?_; (case hd => rfl); (case hg => rfl); (case hr => first | (go_simp; done) | (go_simp; rfl)); intro gb436 hg w10 hbox hb; have n0_ := Aside0.mk (below_step (by repeat (first | (with_reducible first | exact HB.out | apply below_alloc | apply pw_below_drewN | apply below_drew1) | exact HB.out)) hb); have n1_ := Aside0.mk (hbox); have n2_ := Aside0.mk ((by rw [hg]; exact (below_size (by repeat (first | (with_reducible first | exact HB.out | apply below_alloc | apply pw_below_drewN | apply below_drew1) | exact HB.out))) : w.heap.size ≤ gb436)); have n3_ := Aside0.mk ((by rw [hg]; exact (below_size (by repeat (first | (with_reducible first | exact HB.out | apply below_alloc | apply pw_below_drewN | apply below_drew1) | exact HB.out))) : w.heap.size ≤ gb436)); clear HB; have HB := n0_; have BK436 := n1_; have GW436 := n2_; have GE436 := n3_; clear n0_ n1_ n2_ n3_; clear hb hbox hg; have hcz11_0 : w10.cell? ⟨gb436, 0, none⟩ = some (.int .i64 0) := (blk_cell BK436.out 0).trans rfl; have hcz11_1 : w10.cell? ⟨gb436, 1, none⟩ = some (.int .i64 0) := (blk_cell BK436.out 1).trans rfl; have hfz11_0 := blk_frozen BK436.out 0; have hfz11_1 := blk_frozen BK436.out 1) | ((with_reducible refine gate_callee (f := 21) rfl ?_); refine goesL_ (some 32) rfl rfl Try.func21 (by kernel_rfl) rfl #[.slice A0 l0.length c0, .string a1, .agg #[.int .i64 t432, .int .i64 t433]] rfl (by (try simp only [List.map_toArray, List.map_cons, List.map_nil]); first | done | rfl | (simp only [List.length_drop, List.length_take]; rfl)) ?_; (with_reducible refine (telemetry_Raw.calls k _ _ l0 a1 t432 t433 t437 t438 t439 _ ?side1 ?side2 A6.out).mono ?_); (case side1 => exact Kd.C_below HR0.out (by repeat (first | (with_reducible first | exact HB.out | apply below_alloc | apply pw_below_drewN | apply below_drew1 | refine below_set ?_ GE436.out) | exact HB.out))); (case side2 => exact HC0.out); rintro e w12 ⟨rfl, hb⟩; refine ⟨_, rfl, ?_⟩; have n0_ := Aside0.mk (blk_below (g := gb436) (o := .cells #[.int .i64 t432, .int .i64 t433] 24 (0, 0)) (by (with_reducible repeat (first | refine blk_drewN ?_ _ | refine blk_drew ?_ | refine blk_alloc ?_ _)); refine blk_put (cs := #[.int .i64 t432, .int .i64 0]) ?_ 1 _ rfl; (with_reducible repeat (first | refine blk_drewN ?_ _ | refine blk_drew ?_ | refine blk_alloc ?_ _)); refine blk_put (cs := #[.int .i64 0, .int .i64 0]) ?_ 0 _ rfl; (with_reducible repeat (first | refine blk_drewN ?_ _ | refine blk_drew ?_ | refine blk_alloc ?_ _)); exact BK436.out) hb); have n1_ := Aside0.mk (below_step (by repeat (first | (with_reducible first | exact HB.out | apply below_alloc | apply pw_below_drewN | apply below_drew1 | refine below_set ?_ GE436.out) | exact HB.out)) hb); clear BK436; clear HB; have BK436 := n0_; have HB := n1_; clear n0_ n1_; (try clear hb); (try clear hb2); (try clear hk); (try clear hi)) | (go_at_call 20; (with_reducible refine (perigeelaw7_awake.calls k  t440 _ A8.out).mono ?_); rintro e w13 ⟨rfl, hb⟩; have n0_ := Aside0.mk (blk_below (g := gb436) (o := .cells #[.int .i64 t432, .int .i64 t433] 24 (0, 0)) (by (with_reducible repeat (first | refine blk_drewN ?_ _ | refine blk_drew ?_ | refine blk_alloc ?_ _)); exact BK436.out) hb); have n1_ := Aside0.mk (below_step (by repeat (first | (with_reducible first | exact HB.out | apply below_alloc | apply pw_below_drewN | apply below_drew1 | refine below_set ?_ GE436.out) | exact HB.out)) hb); clear BK436; clear HB; have BK436 := n0_; have HB := n1_; clear n0_ n1_; (try clear hb); (try clear hb2); (try clear hk); (try clear hi)))
   go_ret
   exact ⟨by first | rfl | (simp [errW_none, errW_some] <;> rfl) | (simp [*, errW_none, errW_some] <;> rfl), by repeat (first | (with_reducible first | exact HB.out | apply below_alloc | apply pw_below_drewN | apply below_drew1 | refine below_set ?_ GE436.out) | exact HB.out)⟩
  ·rw [if_neg c7] at H
   have c7b0 : (t439 == 1) = false := beq_eq_false_iff_ne.mpr c7
   have c7b1 : (t439 != 1) = true := bne_iff_ne.mpr c7
   by_cases c14 : t439 = 0
   ·rw [if_pos c14] at H
    have c14b0 : (t439 == 0) = true := beq_iff_eq.mpr c14
    have c14b1 : (t439 != 0) = false := bne_eq_false_iff_eq.mpr c14
    clear c14
    by_cases c15 : t438 = true
    ·subst c15
     have H1 : (if t437 = a2 then ((perigeelaw7_awake.f k).bind fun t441 => (some t441)) else (some false)) = some r := by rw [if_pos rfl] at H; exact H
     clear H
     have H := H1
     clear H1
     by_cases c16 : t437 = a2
     ·rw [if_pos c16] at H
      have c16b0 : (t437 == a2) = true := beq_iff_eq.mpr c16
      have c16b1 : (t437 != a2) = false := bne_eq_false_iff_eq.mpr c16
      clear c16
      replace H := Option.bind_eq_some_iff.mp H
      obtain ⟨t441, A170, H⟩ := H
      replace H : (some t441) = some r := H
      have A17 := Aside0.mk A170
      clear A170
      obtain rfl := Option.some.inj H
      go_enter Try.func6, Try.ntmps6
      go_wp2_with (first | ((with_reducible refine gate_callee (f := 16) rfl ?_); refine goesL_ (some 16) rfl rfl Try.func16 (by kernel_rfl) rfl #[.slice A0 l0.length c0, .string a1, .int .i64 a2] rfl (by (try simp only [List.map_toArray, List.map_cons, List.map_nil]); first | done | rfl | (simp only [List.length_drop, List.length_take]; rfl)) ?_; (with_reducible refine (telemetry_Value.calls k _ _ l0 a1 a2 t432 t433 t434 t435 _ ?side1 ?side2 A4.out).mono ?_); (case side1 => repeat (first | exact HR0.out | (with_reducible refine Kd.C_alloc ?_ _) | (with_reducible refine Kd.C_drewN ?_ _) | (with_reducible refine Kd.C_drew ?_))); (case side2 => exact HC0.out); rintro e w18 ⟨rfl, hb⟩; refine ⟨_, rfl, ?_⟩; have n0_ := Aside0.mk (below_step (by repeat (first | (with_reducible first | exact HB.out | apply below_alloc | apply pw_below_drewN | apply below_drew1) | exact HB.out)) hb); clear HB; have HB := n0_; clear n0_; (try clear hb); (try clear hb2); (try clear hk); (try clear hi)) | ((with_reducible refine gate_dst (N := 7) rfl ?_); refine box_event ?hg (N := 7) ?hd (cs := #[.int .i64 0, .int .i64 0]) (t := 24) ?hr ?_; (case hd => rfl); (case hg => rfl); (case hr => first | (go_simp; done) | (go_simp; rfl)); intro gb436 hg w19 hbox hb; have n0_ := Aside0.mk (below_step (by repeat (first | (with_reducible first | exact HB.out | apply below_alloc | apply pw_below_drewN | apply below_drew1) | exact HB.out)) hb); have n1_ := Aside0.mk (hbox); have n2_ := Aside0.mk ((by rw [hg]; exact (below_size (by repeat (first | (with_reducible first | exact HB.out | apply below_alloc | apply pw_below_drewN | apply below_drew1) | exact HB.out))) : w.heap.size ≤ gb436)); have n3_ := Aside0.mk ((by rw [hg]; exact (below_size (by repeat (first | (with_reducible first | exact HB.out | apply below_alloc | apply pw_below_drewN | apply below_drew1) | exact HB.out))) : w.heap.size ≤ gb436)); clear HB; have HB := n0_; have BK436 := n1_; have GW436 := n2_; have GE436 := n3_; clear n0_ n1_ n2_ n3_; clear hb hbox hg; have hcz20_0 : w19.cell? ⟨gb436, 0, none⟩ = some (.int .i64 0) := (blk_cell BK436.out 0).trans rfl; have hcz20_1 : w19.cell? ⟨gb436, 1, none⟩ = some (.int .i64 0) := (blk_cell BK436.out 1).trans rfl; have hfz20_0 := blk_frozen BK436.out 0; have hfz20_1 := blk_frozen BK436.out 1) | ((with_reducible refine gate_callee (f := 21) rfl ?_); refine goesL_ (some 32) rfl rfl Try.func21 (by kernel_rfl) rfl #[.slice A0 l0.length c0, .string a1, .agg #[.int .i64 t432, .int .i64 t433]] rfl (by (try simp only [List.map_toArray, List.map_cons, List.map_nil]); first | done | rfl | (simp only [List.length_drop, List.length_take]; rfl)) ?_; (with_reducible refine (telemetry_Raw.calls k _ _ l0 a1 t432 t433 t437 true t439 _ ?side1 ?side2 A6.out).mono ?_); (case side1 => exact Kd.C_below HR0.out (by repeat (first | (with_reducible first | exact HB.out | apply below_alloc | apply pw_below_drewN | apply below_drew1 | refine below_set ?_ GE436.out) | exact HB.out))); (case side2 => exact HC0.out); rintro e w21 ⟨rfl, hb⟩; refine ⟨_, rfl, ?_⟩; have n0_ := Aside0.mk (blk_below (g := gb436) (o := .cells #[.int .i64 t432, .int .i64 t433] 24 (0, 0)) (by (with_reducible repeat (first | refine blk_drewN ?_ _ | refine blk_drew ?_ | refine blk_alloc ?_ _)); refine blk_put (cs := #[.int .i64 t432, .int .i64 0]) ?_ 1 _ rfl; (with_reducible repeat (first | refine blk_drewN ?_ _ | refine blk_drew ?_ | refine blk_alloc ?_ _)); refine blk_put (cs := #[.int .i64 0, .int .i64 0]) ?_ 0 _ rfl; (with_reducible repeat (first | refine blk_drewN ?_ _ | refine blk_drew ?_ | refine blk_alloc ?_ _)); exact BK436.out) hb); have n1_ := Aside0.mk (below_step (by repeat (first | (with_reducible first | exact HB.out | apply below_alloc | apply pw_below_drewN | apply below_drew1 | refine below_set ?_ GE436.out) | exact HB.out)) hb); clear BK436; clear HB; have BK436 := n0_; have HB := n1_; clear n0_ n1_; (try clear hb); (try clear hb2); (try clear hk); (try clear hi)) | (go_at_call 20; (with_reducible refine (perigeelaw7_awake.calls k  t441 _ A17.out).mono ?_); rintro e w22 ⟨rfl, hb⟩; have n0_ := Aside0.mk (blk_below (g := gb436) (o := .cells #[.int .i64 t432, .int .i64 t433] 24 (0, 0)) (by (with_reducible repeat (first | refine blk_drewN ?_ _ | refine blk_drew ?_ | refine blk_alloc ?_ _)); exact BK436.out) hb); have n1_ := Aside0.mk (below_step (by repeat (first | (with_reducible first | exact HB.out | apply below_alloc | apply pw_below_drewN | apply below_drew1 | refine below_set ?_ GE436.out) | exact HB.out)) hb); clear BK436; clear HB; have BK436 := n0_; have HB := n1_; clear n0_ n1_; (try clear hb); (try clear hb2); (try clear hk); (try clear hi)))
      go_ret
      exact ⟨by first | rfl | (simp [errW_none, errW_some] <;> rfl) | (simp [*, errW_none, errW_some] <;> rfl), by repeat (first | (with_reducible first | exact HB.out | apply below_alloc | apply pw_below_drewN | apply below_drew1 | refine below_set ?_ GE436.out) | exact HB.out)⟩
     ·rw [if_neg c16] at H
      have c16b0 : (t437 == a2) = false := beq_eq_false_iff_ne.mpr c16
      have c16b1 : (t437 != a2) = true := bne_iff_ne.mpr c16
      obtain rfl := Option.some.inj H
      go_enter Try.func6, Try.ntmps6
      go_wp2_with (first | ((with_reducible refine gate_callee (f := 16) rfl ?_); refine goesL_ (some 16) rfl rfl Try.func16 (by kernel_rfl) rfl #[.slice A0 l0.length c0, .string a1, .int .i64 a2] rfl (by (try simp only [List.map_toArray, List.map_cons, List.map_nil]); first | done | rfl | (simp only [List.length_drop, List.length_take]; rfl)) ?_; (with_reducible refine (telemetry_Value.calls k _ _ l0 a1 a2 t432 t433 t434 t435 _ ?side1 ?side2 A4.out).mono ?_); (case side1 => repeat (first | exact HR0.out | (with_reducible refine Kd.C_alloc ?_ _) | (with_reducible refine Kd.C_drewN ?_ _) | (with_reducible refine Kd.C_drew ?_))); (case side2 => exact HC0.out); rintro e w23 ⟨rfl, hb⟩; refine ⟨_, rfl, ?_⟩; have n0_ := Aside0.mk (below_step (by repeat (first | (with_reducible first | exact HB.out | apply below_alloc | apply pw_below_drewN | apply below_drew1) | exact HB.out)) hb); clear HB; have HB := n0_; clear n0_; (try clear hb); (try clear hb2); (try clear hk); (try clear hi)) | ((with_reducible refine gate_dst (N := 7) rfl ?_); refine box_event ?hg (N := 7) ?hd (cs := #[.int .i64 0, .int .i64 0]) (t := 24) ?hr ?_; (case hd => rfl); (case hg => rfl); (case hr => first | (go_simp; done) | (go_simp; rfl)); intro gb436 hg w24 hbox hb; have n0_ := Aside0.mk (below_step (by repeat (first | (with_reducible first | exact HB.out | apply below_alloc | apply pw_below_drewN | apply below_drew1) | exact HB.out)) hb); have n1_ := Aside0.mk (hbox); have n2_ := Aside0.mk ((by rw [hg]; exact (below_size (by repeat (first | (with_reducible first | exact HB.out | apply below_alloc | apply pw_below_drewN | apply below_drew1) | exact HB.out))) : w.heap.size ≤ gb436)); have n3_ := Aside0.mk ((by rw [hg]; exact (below_size (by repeat (first | (with_reducible first | exact HB.out | apply below_alloc | apply pw_below_drewN | apply below_drew1) | exact HB.out))) : w.heap.size ≤ gb436)); clear HB; have HB := n0_; have BK436 := n1_; have GW436 := n2_; have GE436 := n3_; clear n0_ n1_ n2_ n3_; clear hb hbox hg; have hcz25_0 : w24.cell? ⟨gb436, 0, none⟩ = some (.int .i64 0) := (blk_cell BK436.out 0).trans rfl; have hcz25_1 : w24.cell? ⟨gb436, 1, none⟩ = some (.int .i64 0) := (blk_cell BK436.out 1).trans rfl; have hfz25_0 := blk_frozen BK436.out 0; have hfz25_1 := blk_frozen BK436.out 1) | ((with_reducible refine gate_callee (f := 21) rfl ?_); refine goesL_ (some 32) rfl rfl Try.func21 (by kernel_rfl) rfl #[.slice A0 l0.length c0, .string a1, .agg #[.int .i64 t432, .int .i64 t433]] rfl (by (try simp only [List.map_toArray, List.map_cons, List.map_nil]); first | done | rfl | (simp only [List.length_drop, List.length_take]; rfl)) ?_; (with_reducible refine (telemetry_Raw.calls k _ _ l0 a1 t432 t433 t437 true t439 _ ?side1 ?side2 A6.out).mono ?_); (case side1 => exact Kd.C_below HR0.out (by repeat (first | (with_reducible first | exact HB.out | apply below_alloc | apply pw_below_drewN | apply below_drew1 | refine below_set ?_ GE436.out) | exact HB.out))); (case side2 => exact HC0.out); rintro e w26 ⟨rfl, hb⟩; refine ⟨_, rfl, ?_⟩; have n0_ := Aside0.mk (blk_below (g := gb436) (o := .cells #[.int .i64 t432, .int .i64 t433] 24 (0, 0)) (by (with_reducible repeat (first | refine blk_drewN ?_ _ | refine blk_drew ?_ | refine blk_alloc ?_ _)); refine blk_put (cs := #[.int .i64 t432, .int .i64 0]) ?_ 1 _ rfl; (with_reducible repeat (first | refine blk_drewN ?_ _ | refine blk_drew ?_ | refine blk_alloc ?_ _)); refine blk_put (cs := #[.int .i64 0, .int .i64 0]) ?_ 0 _ rfl; (with_reducible repeat (first | refine blk_drewN ?_ _ | refine blk_drew ?_ | refine blk_alloc ?_ _)); exact BK436.out) hb); have n1_ := Aside0.mk (below_step (by repeat (first | (with_reducible first | exact HB.out | apply below_alloc | apply pw_below_drewN | apply below_drew1 | refine below_set ?_ GE436.out) | exact HB.out)) hb); clear BK436; clear HB; have BK436 := n0_; have HB := n1_; clear n0_ n1_; (try clear hb); (try clear hb2); (try clear hk); (try clear hi)))
      go_ret
      exact ⟨by first | rfl | (simp [errW_none, errW_some] <;> rfl) | (simp [*, errW_none, errW_some] <;> rfl), by repeat (first | (with_reducible first | exact HB.out | apply below_alloc | apply pw_below_drewN | apply below_drew1 | refine below_set ?_ GE436.out) | exact HB.out)⟩
    ·replace c15 := Bool.eq_false_iff.mpr c15
     subst c15
     have H1 : ((perigeelaw7_awake.f k).bind fun t442 => (some t442)) = some r := by rw [if_neg (show ¬ (false = true) by decide)] at H; exact H
     clear H
     have H := H1
     clear H1
     replace H := Option.bind_eq_some_iff.mp H
     obtain ⟨t442, A270, H⟩ := H
     replace H : (some t442) = some r := H
     have A27 := Aside0.mk A270
     clear A270
     obtain rfl := Option.some.inj H
     go_enter Try.func6, Try.ntmps6
     go_wp2_with (first | ((with_reducible refine gate_callee (f := 16) rfl ?_); refine goesL_ (some 16) rfl rfl Try.func16 (by kernel_rfl) rfl #[.slice A0 l0.length c0, .string a1, .int .i64 a2] rfl (by (try simp only [List.map_toArray, List.map_cons, List.map_nil]); first | done | rfl | (simp only [List.length_drop, List.length_take]; rfl)) ?_; (with_reducible refine (telemetry_Value.calls k _ _ l0 a1 a2 t432 t433 t434 t435 _ ?side1 ?side2 A4.out).mono ?_); (case side1 => repeat (first | exact HR0.out | (with_reducible refine Kd.C_alloc ?_ _) | (with_reducible refine Kd.C_drewN ?_ _) | (with_reducible refine Kd.C_drew ?_))); (case side2 => exact HC0.out); rintro e w28 ⟨rfl, hb⟩; refine ⟨_, rfl, ?_⟩; have n0_ := Aside0.mk (below_step (by repeat (first | (with_reducible first | exact HB.out | apply below_alloc | apply pw_below_drewN | apply below_drew1) | exact HB.out)) hb); clear HB; have HB := n0_; clear n0_; (try clear hb); (try clear hb2); (try clear hk); (try clear hi)) | ((with_reducible refine gate_dst (N := 7) rfl ?_); refine box_event ?hg (N := 7) ?hd (cs := #[.int .i64 0, .int .i64 0]) (t := 24) ?hr ?_; (case hd => rfl); (case hg => rfl); (case hr => first | (go_simp; done) | (go_simp; rfl)); intro gb436 hg w29 hbox hb; have n0_ := Aside0.mk (below_step (by repeat (first | (with_reducible first | exact HB.out | apply below_alloc | apply pw_below_drewN | apply below_drew1) | exact HB.out)) hb); have n1_ := Aside0.mk (hbox); have n2_ := Aside0.mk ((by rw [hg]; exact (below_size (by repeat (first | (with_reducible first | exact HB.out | apply below_alloc | apply pw_below_drewN | apply below_drew1) | exact HB.out))) : w.heap.size ≤ gb436)); have n3_ := Aside0.mk ((by rw [hg]; exact (below_size (by repeat (first | (with_reducible first | exact HB.out | apply below_alloc | apply pw_below_drewN | apply below_drew1) | exact HB.out))) : w.heap.size ≤ gb436)); clear HB; have HB := n0_; have BK436 := n1_; have GW436 := n2_; have GE436 := n3_; clear n0_ n1_ n2_ n3_; clear hb hbox hg; have hcz30_0 : w29.cell? ⟨gb436, 0, none⟩ = some (.int .i64 0) := (blk_cell BK436.out 0).trans rfl; have hcz30_1 : w29.cell? ⟨gb436, 1, none⟩ = some (.int .i64 0) := (blk_cell BK436.out 1).trans rfl; have hfz30_0 := blk_frozen BK436.out 0; have hfz30_1 := blk_frozen BK436.out 1) | ((with_reducible refine gate_callee (f := 21) rfl ?_); refine goesL_ (some 32) rfl rfl Try.func21 (by kernel_rfl) rfl #[.slice A0 l0.length c0, .string a1, .agg #[.int .i64 t432, .int .i64 t433]] rfl (by (try simp only [List.map_toArray, List.map_cons, List.map_nil]); first | done | rfl | (simp only [List.length_drop, List.length_take]; rfl)) ?_; (with_reducible refine (telemetry_Raw.calls k _ _ l0 a1 t432 t433 t437 false t439 _ ?side1 ?side2 A6.out).mono ?_); (case side1 => exact Kd.C_below HR0.out (by repeat (first | (with_reducible first | exact HB.out | apply below_alloc | apply pw_below_drewN | apply below_drew1 | refine below_set ?_ GE436.out) | exact HB.out))); (case side2 => exact HC0.out); rintro e w31 ⟨rfl, hb⟩; refine ⟨_, rfl, ?_⟩; have n0_ := Aside0.mk (blk_below (g := gb436) (o := .cells #[.int .i64 t432, .int .i64 t433] 24 (0, 0)) (by (with_reducible repeat (first | refine blk_drewN ?_ _ | refine blk_drew ?_ | refine blk_alloc ?_ _)); refine blk_put (cs := #[.int .i64 t432, .int .i64 0]) ?_ 1 _ rfl; (with_reducible repeat (first | refine blk_drewN ?_ _ | refine blk_drew ?_ | refine blk_alloc ?_ _)); refine blk_put (cs := #[.int .i64 0, .int .i64 0]) ?_ 0 _ rfl; (with_reducible repeat (first | refine blk_drewN ?_ _ | refine blk_drew ?_ | refine blk_alloc ?_ _)); exact BK436.out) hb); have n1_ := Aside0.mk (below_step (by repeat (first | (with_reducible first | exact HB.out | apply below_alloc | apply pw_below_drewN | apply below_drew1 | refine below_set ?_ GE436.out) | exact HB.out)) hb); clear BK436; clear HB; have BK436 := n0_; have HB := n1_; clear n0_ n1_; (try clear hb); (try clear hb2); (try clear hk); (try clear hi)) | (go_at_call 20; (with_reducible refine (perigeelaw7_awake.calls k  t442 _ A27.out).mono ?_); rintro e w32 ⟨rfl, hb⟩; have n0_ := Aside0.mk (blk_below (g := gb436) (o := .cells #[.int .i64 t432, .int .i64 t433] 24 (0, 0)) (by (with_reducible repeat (first | refine blk_drewN ?_ _ | refine blk_drew ?_ | refine blk_alloc ?_ _)); exact BK436.out) hb); have n1_ := Aside0.mk (below_step (by repeat (first | (with_reducible first | exact HB.out | apply below_alloc | apply pw_below_drewN | apply below_drew1 | refine below_set ?_ GE436.out) | exact HB.out)) hb); clear BK436; clear HB; have BK436 := n0_; have HB := n1_; clear n0_ n1_; (try clear hb); (try clear hb2); (try clear hk); (try clear hi)))
     go_ret
     exact ⟨by first | rfl | (simp [errW_none, errW_some] <;> rfl) | (simp [*, errW_none, errW_some] <;> rfl), by repeat (first | (with_reducible first | exact HB.out | apply below_alloc | apply pw_below_drewN | apply below_drew1 | refine below_set ?_ GE436.out) | exact HB.out)⟩
   ·rw [if_neg c14] at H
    have c14b0 : (t439 == 0) = false := beq_eq_false_iff_ne.mpr c14
    have c14b1 : (t439 != 0) = true := bne_iff_ne.mpr c14
    obtain rfl := Option.some.inj H
    go_enter Try.func6, Try.ntmps6
    go_wp2_with (first | ((with_reducible refine gate_callee (f := 16) rfl ?_); refine goesL_ (some 16) rfl rfl Try.func16 (by kernel_rfl) rfl #[.slice A0 l0.length c0, .string a1, .int .i64 a2] rfl (by (try simp only [List.map_toArray, List.map_cons, List.map_nil]); first | done | rfl | (simp only [List.length_drop, List.length_take]; rfl)) ?_; (with_reducible refine (telemetry_Value.calls k _ _ l0 a1 a2 t432 t433 t434 t435 _ ?side1 ?side2 A4.out).mono ?_); (case side1 => repeat (first | exact HR0.out | (with_reducible refine Kd.C_alloc ?_ _) | (with_reducible refine Kd.C_drewN ?_ _) | (with_reducible refine Kd.C_drew ?_))); (case side2 => exact HC0.out); rintro e w33 ⟨rfl, hb⟩; refine ⟨_, rfl, ?_⟩; have n0_ := Aside0.mk (below_step (by repeat (first | (with_reducible first | exact HB.out | apply below_alloc | apply pw_below_drewN | apply below_drew1) | exact HB.out)) hb); clear HB; have HB := n0_; clear n0_; (try clear hb); (try clear hb2); (try clear hk); (try clear hi)) | ((with_reducible refine gate_dst (N := 7) rfl ?_); refine box_event ?hg (N := 7) ?hd (cs := #[.int .i64 0, .int .i64 0]) (t := 24) ?hr ?_; (case hd => rfl); (case hg => rfl); (case hr => first | (go_simp; done) | (go_simp; rfl)); intro gb436 hg w34 hbox hb; have n0_ := Aside0.mk (below_step (by repeat (first | (with_reducible first | exact HB.out | apply below_alloc | apply pw_below_drewN | apply below_drew1) | exact HB.out)) hb); have n1_ := Aside0.mk (hbox); have n2_ := Aside0.mk ((by rw [hg]; exact (below_size (by repeat (first | (with_reducible first | exact HB.out | apply below_alloc | apply pw_below_drewN | apply below_drew1) | exact HB.out))) : w.heap.size ≤ gb436)); have n3_ := Aside0.mk ((by rw [hg]; exact (below_size (by repeat (first | (with_reducible first | exact HB.out | apply below_alloc | apply pw_below_drewN | apply below_drew1) | exact HB.out))) : w.heap.size ≤ gb436)); clear HB; have HB := n0_; have BK436 := n1_; have GW436 := n2_; have GE436 := n3_; clear n0_ n1_ n2_ n3_; clear hb hbox hg; have hcz35_0 : w34.cell? ⟨gb436, 0, none⟩ = some (.int .i64 0) := (blk_cell BK436.out 0).trans rfl; have hcz35_1 : w34.cell? ⟨gb436, 1, none⟩ = some (.int .i64 0) := (blk_cell BK436.out 1).trans rfl; have hfz35_0 := blk_frozen BK436.out 0; have hfz35_1 := blk_frozen BK436.out 1) | ((with_reducible refine gate_callee (f := 21) rfl ?_); refine goesL_ (some 32) rfl rfl Try.func21 (by kernel_rfl) rfl #[.slice A0 l0.length c0, .string a1, .agg #[.int .i64 t432, .int .i64 t433]] rfl (by (try simp only [List.map_toArray, List.map_cons, List.map_nil]); first | done | rfl | (simp only [List.length_drop, List.length_take]; rfl)) ?_; (with_reducible refine (telemetry_Raw.calls k _ _ l0 a1 t432 t433 t437 t438 t439 _ ?side1 ?side2 A6.out).mono ?_); (case side1 => exact Kd.C_below HR0.out (by repeat (first | (with_reducible first | exact HB.out | apply below_alloc | apply pw_below_drewN | apply below_drew1 | refine below_set ?_ GE436.out) | exact HB.out))); (case side2 => exact HC0.out); rintro e w36 ⟨rfl, hb⟩; refine ⟨_, rfl, ?_⟩; have n0_ := Aside0.mk (blk_below (g := gb436) (o := .cells #[.int .i64 t432, .int .i64 t433] 24 (0, 0)) (by (with_reducible repeat (first | refine blk_drewN ?_ _ | refine blk_drew ?_ | refine blk_alloc ?_ _)); refine blk_put (cs := #[.int .i64 t432, .int .i64 0]) ?_ 1 _ rfl; (with_reducible repeat (first | refine blk_drewN ?_ _ | refine blk_drew ?_ | refine blk_alloc ?_ _)); refine blk_put (cs := #[.int .i64 0, .int .i64 0]) ?_ 0 _ rfl; (with_reducible repeat (first | refine blk_drewN ?_ _ | refine blk_drew ?_ | refine blk_alloc ?_ _)); exact BK436.out) hb); have n1_ := Aside0.mk (below_step (by repeat (first | (with_reducible first | exact HB.out | apply below_alloc | apply pw_below_drewN | apply below_drew1 | refine below_set ?_ GE436.out) | exact HB.out)) hb); clear BK436; clear HB; have BK436 := n0_; have HB := n1_; clear n0_ n1_; (try clear hb); (try clear hb2); (try clear hk); (try clear hi)))
    go_ret
    exact ⟨by first | rfl | (simp [errW_none, errW_some] <;> rfl) | (simp [*, errW_none, errW_some] <;> rfl), by repeat (first | (with_reducible first | exact HB.out | apply below_alloc | apply pw_below_drewN | apply below_drew1 | refine below_set ?_ GE436.out) | exact HB.out)⟩
 ·rw [if_neg c5] at H
  have c5b0 : (t435 == 0) = false := beq_eq_false_iff_ne.mpr c5
  have c5b1 : (t435 != 0) = true := bne_iff_ne.mpr c5
  by_cases c37 : (t432 == 0 && (t433 == 0)) = true
  ·rw [if_pos c37] at H
   have c37b0 : (t432 == 0 && (t433 == 0)) = true := c37
   (try (have c37b1 : decide (t432 = 0 && (t433 == 0)) = true := by simpa using c37))
   (try (have c37b2 : (t432 == 0 && (t433 == 0)) = true := by simpa using c37))
   clear c37
   replace H := Option.bind_eq_some_iff.mp H
   obtain ⟨t443, A380, H⟩ := H
   replace H : (some t443) = some r := H
   have A38 := Aside0.mk A380
   clear A380
   obtain rfl := Option.some.inj H
   go_enter Try.func6, Try.ntmps6
   go_wp2_with (first | ((with_reducible refine gate_callee (f := 16) rfl ?_); refine goesL_ (some 16) rfl rfl Try.func16 (by kernel_rfl) rfl #[.slice A0 l0.length c0, .string a1, .int .i64 a2] rfl (by (try simp only [List.map_toArray, List.map_cons, List.map_nil]); first | done | rfl | (simp only [List.length_drop, List.length_take]; rfl)) ?_; (with_reducible refine (telemetry_Value.calls k _ _ l0 a1 a2 t432 t433 t434 t435 _ ?side1 ?side2 A4.out).mono ?_); (case side1 => repeat (first | exact HR0.out | (with_reducible refine Kd.C_alloc ?_ _) | (with_reducible refine Kd.C_drewN ?_ _) | (with_reducible refine Kd.C_drew ?_))); (case side2 => exact HC0.out); rintro e w39 ⟨rfl, hb⟩; refine ⟨_, rfl, ?_⟩; have n0_ := Aside0.mk (below_step (by repeat (first | (with_reducible first | exact HB.out | apply below_alloc | apply pw_below_drewN | apply below_drew1) | exact HB.out)) hb); clear HB; have HB := n0_; clear n0_; (try clear hb); (try clear hb2); (try clear hk); (try clear hi)) | ((with_reducible refine gate_dst (N := 7) rfl ?_); refine box_event ?hg (N := 7) ?hd (cs := #[.int .i64 0, .int .i64 0]) (t := 24) ?hr ?_; (case hd => rfl); (case hg => rfl); (case hr => first | (go_simp; done) | (go_simp; rfl)); intro gb436 hg w40 hbox hb; have n0_ := Aside0.mk (below_step (by repeat (first | (with_reducible first | exact HB.out | apply below_alloc | apply pw_below_drewN | apply below_drew1) | exact HB.out)) hb); have n1_ := Aside0.mk (hbox); have n2_ := Aside0.mk ((by rw [hg]; exact (below_size (by repeat (first | (with_reducible first | exact HB.out | apply below_alloc | apply pw_below_drewN | apply below_drew1) | exact HB.out))) : w.heap.size ≤ gb436)); have n3_ := Aside0.mk ((by rw [hg]; exact (below_size (by repeat (first | (with_reducible first | exact HB.out | apply below_alloc | apply pw_below_drewN | apply below_drew1) | exact HB.out))) : w.heap.size ≤ gb436)); clear HB; have HB := n0_; have BK436 := n1_; have GW436 := n2_; have GE436 := n3_; clear n0_ n1_ n2_ n3_; clear hb hbox hg; have hcz41_0 : w40.cell? ⟨gb436, 0, none⟩ = some (.int .i64 0) := (blk_cell BK436.out 0).trans rfl; have hcz41_1 : w40.cell? ⟨gb436, 1, none⟩ = some (.int .i64 0) := (blk_cell BK436.out 1).trans rfl; have hfz41_0 := blk_frozen BK436.out 0; have hfz41_1 := blk_frozen BK436.out 1) | (go_at_call 20; (with_reducible refine (perigeelaw7_awake.calls k  t443 _ A38.out).mono ?_); rintro e w42 ⟨rfl, hb⟩; have n0_ := Aside0.mk (blk_below (g := gb436) (o := .cells #[.int .i64 t432, .int .i64 t433] 24 (0, 0)) (by (with_reducible repeat (first | refine blk_drewN ?_ _ | refine blk_drew ?_ | refine blk_alloc ?_ _)); refine blk_put (cs := #[.int .i64 t432, .int .i64 0]) ?_ 1 _ rfl; (with_reducible repeat (first | refine blk_drewN ?_ _ | refine blk_drew ?_ | refine blk_alloc ?_ _)); refine blk_put (cs := #[.int .i64 0, .int .i64 0]) ?_ 0 _ rfl; (with_reducible repeat (first | refine blk_drewN ?_ _ | refine blk_drew ?_ | refine blk_alloc ?_ _)); exact BK436.out) hb); have n1_ := Aside0.mk (below_step (by repeat (first | (with_reducible first | exact HB.out | apply below_alloc | apply pw_below_drewN | apply below_drew1 | refine below_set ?_ GE436.out) | exact HB.out)) hb); clear BK436; clear HB; have BK436 := n0_; have HB := n1_; clear n0_ n1_; (try clear hb); (try clear hb2); (try clear hk); (try clear hi)))
   go_ret
   exact ⟨by first | rfl | (simp [errW_none, errW_some] <;> rfl) | (simp [*, errW_none, errW_some] <;> rfl), by repeat (first | (with_reducible first | exact HB.out | apply below_alloc | apply pw_below_drewN | apply below_drew1 | refine below_set ?_ GE436.out) | exact HB.out)⟩
  ·rw [if_neg c37] at H
   have c37b0 : (t432 == 0 && (t433 == 0)) = false := by simpa using c37
   (try (have c37b1 : decide (t432 = 0 && (t433 == 0)) = false := by simpa using c37))
   (try (have c37b2 : (t432 == 0 && (t433 == 0)) = false := by simpa using c37))
   (try (have c37b3 : ¬ (t432 = 0 && (t433 == 0)) := by simpa using c37))
   clear c37
   obtain rfl := Option.some.inj H
   go_enter Try.func6, Try.ntmps6
   go_wp2_with (first | ((with_reducible refine gate_callee (f := 16) rfl ?_); refine goesL_ (some 16) rfl rfl Try.func16 (by kernel_rfl) rfl #[.slice A0 l0.length c0, .string a1, .int .i64 a2] rfl (by (try simp only [List.map_toArray, List.map_cons, List.map_nil]); first | done | rfl | (simp only [List.length_drop, List.length_take]; rfl)) ?_; (with_reducible refine (telemetry_Value.calls k _ _ l0 a1 a2 t432 t433 t434 t435 _ ?side1 ?side2 A4.out).mono ?_); (case side1 => repeat (first | exact HR0.out | (with_reducible refine Kd.C_alloc ?_ _) | (with_reducible refine Kd.C_drewN ?_ _) | (with_reducible refine Kd.C_drew ?_))); (case side2 => exact HC0.out); rintro e w43 ⟨rfl, hb⟩; refine ⟨_, rfl, ?_⟩; have n0_ := Aside0.mk (below_step (by repeat (first | (with_reducible first | exact HB.out | apply below_alloc | apply pw_below_drewN | apply below_drew1) | exact HB.out)) hb); clear HB; have HB := n0_; clear n0_; (try clear hb); (try clear hb2); (try clear hk); (try clear hi)) | ((with_reducible refine gate_dst (N := 7) rfl ?_); refine box_event ?hg (N := 7) ?hd (cs := #[.int .i64 0, .int .i64 0]) (t := 24) ?hr ?_; (case hd => rfl); (case hg => rfl); (case hr => first | (go_simp; done) | (go_simp; rfl)); intro gb436 hg w44 hbox hb; have n0_ := Aside0.mk (below_step (by repeat (first | (with_reducible first | exact HB.out | apply below_alloc | apply pw_below_drewN | apply below_drew1) | exact HB.out)) hb); have n1_ := Aside0.mk (hbox); have n2_ := Aside0.mk ((by rw [hg]; exact (below_size (by repeat (first | (with_reducible first | exact HB.out | apply below_alloc | apply pw_below_drewN | apply below_drew1) | exact HB.out))) : w.heap.size ≤ gb436)); have n3_ := Aside0.mk ((by rw [hg]; exact (below_size (by repeat (first | (with_reducible first | exact HB.out | apply below_alloc | apply pw_below_drewN | apply below_drew1) | exact HB.out))) : w.heap.size ≤ gb436)); clear HB; have HB := n0_; have BK436 := n1_; have GW436 := n2_; have GE436 := n3_; clear n0_ n1_ n2_ n3_; clear hb hbox hg; have hcz45_0 : w44.cell? ⟨gb436, 0, none⟩ = some (.int .i64 0) := (blk_cell BK436.out 0).trans rfl; have hcz45_1 : w44.cell? ⟨gb436, 1, none⟩ = some (.int .i64 0) := (blk_cell BK436.out 1).trans rfl; have hfz45_0 := blk_frozen BK436.out 0; have hfz45_1 := blk_frozen BK436.out 1))
   go_ret
   exact ⟨by first | rfl | (simp [errW_none, errW_some] <;> rfl) | (simp [*, errW_none, errW_some] <;> rfl), by repeat (first | (with_reducible first | exact HB.out | apply below_alloc | apply pw_below_drewN | apply below_drew1 | refine below_set ?_ GE436.out) | exact HB.out)⟩

end Go.Proofs.Ytcefbdknoelacaa.P

-- YtcefbdknoelacaaKit
set_option linter.unusedVariables false
set_option linter.unusedSimpArgs false
namespace Go.Proofs.Ytcefbdknoelacaa.Pure
open Go.RowKit Go.Proofs.YtcefbdknoelacaaW.PrintWords Go.Proofs.YtcefbdknoelacaaW.PrintLast Go.Proofs.YtcefbdknoelacaaW.PrintMore

theorem w64 {x : Int} (h : -9223372036854775808 ≤ x) (h' : x ≤ 9223372036854775807) : wrap64 x = x := by unfold wrap64; omega
theorem Ev.yes {α : Type} {c : Prop} {hd : Decidable c} {g g' : Nat → Option α} {r : α} (h : c) (e : Ev g r) : Ev (fun k => if c then g k else g' k) r := by
 simp only [if_pos h]; exact e
theorem Ev.no {α : Type} {c : Prop} {hd : Decidable c} {g g' : Nat → Option α} {r : α} (h : ¬ c) (e : Ev g' r) : Ev (fun k => if c then g k else g' k) r := by
 simp only [if_neg h]; exact e
theorem Ev.unique {α : Type} {g : Nat → Option α} {r s : α} (h : Ev g r) (h' : Ev g s) : r = s := by
 obtain ⟨K, h⟩ := h
 obtain ⟨K', h'⟩ := h'
 have h1 := h (max K K') (by omega)
 have h2 := h' (max K K') (by omega)
 rw [h1] at h2
 injection h2
theorem Ev.some {α : Type} {o : Option α} {r : α} (h : o = some r) : Ev (fun _ => o) r := by subst h; exact Ev.now _

theorem mul_bd {x y A B : Int} (hx : -A ≤ x) (hx' : x ≤ A) (hy : -B ≤ y) (hy' : y ≤ B) : -(A * B) ≤ x * y ∧ x * y ≤ A * B := by
 have hA : 0 ≤ A := by omega
 have hB : 0 ≤ B := by omega
 have h1 : x.natAbs ≤ A.natAbs := by omega
 have h2 : y.natAbs ≤ B.natAbs := by omega
 have h3 : (x * y).natAbs ≤ (A * B).natAbs := by rw [Int.natAbs_mul, Int.natAbs_mul]; exact Nat.mul_le_mul h1 h2
 have h4 : 0 ≤ A * B := Int.mul_nonneg hA hB
 omega

theorem getD_nat {α : Type} (z : α) (l : List α) (i : Nat) (h : i < l.length) : l.getD i z = l[i] := by
 simp [List.getD_eq_getElem?_getD, List.getElem?_eq_getElem h]
theorem getD_mem {α : Type} {z : α} {l : List α} {i : Nat} (h : i < l.length) : l.getD i z ∈ l := by
 rw [getD_nat z l i h]; exact List.getElem_mem h

theorem bl_cons (x y : UInt8) (a b : List UInt8) : Op.bytesLess (x :: a) (y :: b) = (decide (x < y) || (x == y && Op.bytesLess a b)) := by rw [Op.bytesLess]
theorem less_irrefl (a : List UInt8) : Op.bytesLess a a = false := by
 have := Strs.less_total a a
 cases h : Op.bytesLess a a with
 | false => rfl
 | true => rw [h] at this; simp at this
theorem less_ne {a b : List UInt8} (h : Op.bytesLess a b = true) : a ≠ b := by
 intro e
 subst e
 rw [less_irrefl] at h
 cases h
theorem less_tri {a b : List UInt8} (h1 : ¬ Op.bytesLess a b = true) (h2 : a ≠ b) : Op.bytesLess b a = true := by
 have := Strs.less_total a b
 rw [show Op.bytesLess a b = false by simpa using h1, show (a == b) = false by simpa using h2] at this
 simpa using this.symm
theorem less_trans : ∀ {a b c : List UInt8}, Op.bytesLess a b = true → Op.bytesLess b c = true → Op.bytesLess a c = true := by
 intro a
 induction a with
 | nil =>
  intro b c h1 h2
  cases b with
  | nil => simp [Op.bytesLess] at h1
  | cons y b =>
   cases c with
   | nil => simp [Op.bytesLess] at h2
   | cons z c => simp [Op.bytesLess]
 | cons x a ih =>
  intro b c h1 h2
  cases b with
  | nil => simp [Op.bytesLess] at h1
  | cons y b =>
   cases c with
   | nil => simp [Op.bytesLess] at h2
   | cons z c =>
    rw [bl_cons] at h1 h2 ⊢
    simp only [Bool.or_eq_true, Bool.and_eq_true, decide_eq_true_eq, beq_iff_eq] at h1 h2 ⊢
    rcases h1 with h1 | ⟨rfl, h1⟩
    ·rcases h2 with h2 | ⟨rfl, h2⟩
     ·left
      have := UInt8.lt_iff_toNat_lt.1 h1
      have := UInt8.lt_iff_toNat_lt.1 h2
      exact UInt8.lt_iff_toNat_lt.2 (by omega)
     ·exact .inl h1
    ·rcases h2 with h2 | ⟨rfl, h2⟩
     ·exact .inl h2
     ·exact .inr ⟨rfl, ih h1 h2⟩
theorem empty_iff (s : ByteArray) : s.toList = ([] : List UInt8) ↔ s.size = 0 := by
 rw [Lib.toList_data]
 constructor
 ·intro h
  have := congrArg List.length h
  rw [data_length] at this
  simpa using this
 ·intro h
  rw [← data_length] at h
  exact List.eq_nil_of_length_eq_zero h

def Twin {α β : Type} (g : Nat → Option α) (g' : Nat → Option β) (R : α → β → Prop) : Prop := ∃ a b, Ev g a ∧ Ev g' b ∧ R a b
section
variable {α β γ δ : Type} {R : α → β → Prop}
theorem Twin.of {g : Nat → Option α} {g' : Nat → Option β} {a : α} {b : β} (h : Ev g a) (h' : Ev g' b) (r : R a b) : Twin g g' R := ⟨a, b, h, h', r⟩
theorem Twin.now {a : α} {b : β} (r : R a b) : Twin (fun _ => some a) (fun _ => some b) R := ⟨a, b, Ev.now _, Ev.now _, r⟩
theorem Twin.mono {g : Nat → Option α} {g' : Nat → Option β} {S : α → β → Prop} (h : Twin g g' S) (k : ∀ a b, S a b → R a b) : Twin g g' R := by
 obtain ⟨a, b, h1, h2, h3⟩ := h
 exact ⟨a, b, h1, h2, k a b h3⟩
theorem Twin.stepL {g f : Nat → Option α} {g' : Nat → Option β} (h : ∀ k, g (k + 1) = f k) (t : Twin f g' R) : Twin g g' R := by
 obtain ⟨a, b, h1, h2, h3⟩ := t
 exact ⟨a, b, Ev.step h h1, h2, h3⟩
theorem Twin.stepR {g : Nat → Option α} {g' f : Nat → Option β} (h : ∀ k, g' (k + 1) = f k) (t : Twin g f R) : Twin g g' R := by
 obtain ⟨a, b, h1, h2, h3⟩ := t
 exact ⟨a, b, h1, Ev.step h h2, h3⟩
theorem Twin.ifL {c : Prop} {hd : Decidable c} {g f : Nat → Option α} {g' : Nat → Option β} (y : c → Twin g g' R) (n : ¬ c → Twin f g' R) : Twin (fun k => if c then g k else f k) g' R := by
 by_cases h : c
 ·simp only [if_pos h]; exact y h
 ·simp only [if_neg h]; exact n h
theorem Twin.ifR {c : Prop} {hd : Decidable c} {g : Nat → Option α} {g' f : Nat → Option β} (y : c → Twin g g' R) (n : ¬ c → Twin g f R) : Twin g (fun k => if c then g' k else f k) R := by
 by_cases h : c
 ·simp only [if_pos h]; exact y h
 ·simp only [if_neg h]; exact n h
theorem Twin.bind {g : Nat → Option γ} {g' : Nat → Option δ} {S : γ → δ → Prop} {f : Nat → γ → Option α} {f' : Nat → δ → Option β} (t : Twin g g' S) (k : ∀ a b, S a b → Twin (fun n => f n a) (fun n => f' n b) R) :
 Twin (fun n => (g n).bind (f n)) (fun n => (g' n).bind (f' n)) R := by
 obtain ⟨a, b, h1, h2, h3⟩ := t
 obtain ⟨a', b', h1', h2', h3'⟩ := k a b h3
 exact ⟨a', b', Ev.bind h1 h1', Ev.bind h2 h2', h3'⟩
theorem Twin.bindL {g : Nat → Option γ} {f : Nat → γ → Option α} {g' : Nat → Option β} {a : γ} (h : Ev g a) (t : Twin (fun n => f n a) g' R) : Twin (fun n => (g n).bind (f n)) g' R := by
 obtain ⟨a', b', h1', h2', h3'⟩ := t
 exact ⟨a', b', Ev.bind h h1', h2', h3'⟩
theorem Twin.bindR {g : Nat → Option γ} {f : Nat → γ → Option β} {g' : Nat → Option α} {a : γ} (h : Ev g a) (t : Twin g' (fun n => f n a) R) : Twin g' (fun n => (g n).bind (f n)) R := by
 obtain ⟨a', b', h1', h2', h3'⟩ := t
 exact ⟨a', b', h1', Ev.bind h h2', h3'⟩
theorem Ev.split {c : Prop} {hd : Decidable c} {g f : Nat → Option α} {r : α} (y : c → Ev g r) (n : ¬ c → Ev f r) : Ev (fun k => if c then g k else f k) r := by
 by_cases h : c
 ·simp only [if_pos h]; exact y h
 ·simp only [if_neg h]; exact n h
theorem Ev.is {v r : α} (h : v = r) : Ev (fun _ => Option.some v) r := by subst h; exact Ev.now _
end
theorem Twin.yesL {α β : Type} {R : α → β → Prop} {c : Prop} {hd : Decidable c} {g f : Nat → Option α} {g' : Nat → Option β} (h : c) (y : Twin g g' R) : Twin (fun k => if c then g k else f k) g' R := Twin.ifL (fun _ => y) (fun n => absurd h n)
theorem Twin.noL {α β : Type} {R : α → β → Prop} {c : Prop} {hd : Decidable c} {g f : Nat → Option α} {g' : Nat → Option β} (h : ¬ c) (y : Twin f g' R) : Twin (fun k => if c then g k else f k) g' R := Twin.ifL (fun n => absurd n h) (fun _ => y)
theorem Twin.yesR {α β : Type} {R : α → β → Prop} {c : Prop} {hd : Decidable c} {g : Nat → Option α} {g' f : Nat → Option β} (h : c) (y : Twin g g' R) : Twin g (fun k => if c then g' k else f k) R := Twin.ifR (fun _ => y) (fun n => absurd h n)
theorem Twin.noR {α β : Type} {R : α → β → Prop} {c : Prop} {hd : Decidable c} {g : Nat → Option α} {g' f : Nat → Option β} (h : ¬ c) (y : Twin g f R) : Twin g (fun k => if c then g' k else f k) R := Twin.ifR (fun n => absurd n h) (fun _ => y)

end Go.Proofs.Ytcefbdknoelacaa.Pure

-- YtcefbdknoelacaaF19
namespace Go.Proofs.Ytcefbdknoelacaa.P
open Go.RowKit Go.Proofs.YtcefbdknoelacaaW.PrintWords Go.Proofs.YtcefbdknoelacaaW.PrintLast Go.Proofs.YtcefbdknoelacaaW.PrintMore
attribute [local go_sem] max2_int min2_int max_two min_two max_three min_three max_four min_four Go.Proofs.Ytcefbdknoelacaa.Strs.leqS Go.Proofs.Ytcefbdknoelacaa.Strs.gtrS Go.Proofs.Ytcefbdknoelacaa.Strs.geqS   -- for this text's walks alone
set_option linter.unusedVariables false
set_option linter.unusedSimpArgs false

def perigeeref7_within.f (a0 : Int) (a1 : Int) (a2 : Int) : Option (Bool) := if a1 ≤ a0 then (some (decide (a0 ≤ a2))) else (some false)
end Go.Proofs.Ytcefbdknoelacaa.P

-- YtcefbdknoelacaaF20
namespace Go.Proofs.Ytcefbdknoelacaa.P
open Go.RowKit Go.Proofs.YtcefbdknoelacaaW.PrintWords Go.Proofs.YtcefbdknoelacaaW.PrintLast Go.Proofs.YtcefbdknoelacaaW.PrintMore
attribute [local go_sem] max2_int min2_int max_two min_two max_three min_three max_four min_four Go.Proofs.Ytcefbdknoelacaa.Strs.leqS Go.Proofs.Ytcefbdknoelacaa.Strs.gtrS Go.Proofs.Ytcefbdknoelacaa.Strs.geqS   -- for this text's walks alone
set_option linter.unusedVariables false
set_option linter.unusedSimpArgs false

mutual
def perigeeref7_IsWord.j0 : Nat → ByteArray → Bool → Option (Bool)
 | 0, _, _ => none
 | k + 1, x0, x18 => if x18 = true then (some false) else (perigeeref7_IsWord.l0 k x0 (x0.size : Int) 0)
def perigeeref7_IsWord.l0 : Nat → ByteArray → Int → Int → Option (Bool)
 | 0, _, _, _ => none
 | k + 1, x0, x20, x21 => if x21 < x20 then (if 0 ≤ x21 then (if x21 < (x0.size : Int) then (if (bt x0 x21) < 97 then (if (bt x0 x21) < 48 then (if (bt x0 x21) = 95 then (perigeeref7_IsWord.l0 k x0 x20 (wrap64 (x21 + 1))) else (some false)) else (if (bt x0 x21) > 57 then (if (bt x0 x21) = 95 then (perigeeref7_IsWord.l0 k x0 x20 (wrap64 (x21 + 1))) else (some false)) else (perigeeref7_IsWord.l0 k x0 x20 (wrap64 (x21 + 1))))) else (if (bt x0 x21) > 122 then (if (bt x0 x21) < 48 then (if (bt x0 x21) = 95 then (perigeeref7_IsWord.l0 k x0 x20 (wrap64 (x21 + 1))) else (some false)) else (if (bt x0 x21) > 57 then (if (bt x0 x21) = 95 then (perigeeref7_IsWord.l0 k x0 x20 (wrap64 (x21 + 1))) else (some false)) else (perigeeref7_IsWord.l0 k x0 x20 (wrap64 (x21 + 1))))) else (perigeeref7_IsWord.l0 k x0 x20 (wrap64 (x21 + 1))))) else (none)) else (none)) else (some true)
end
def perigeeref7_IsWord.f (k : Nat) (a0 : ByteArray) : Option (Bool) := (perigeeref7_within.f (a0.size : Int) 1 40).bind fun t168 => (if t168 = true then (if 0 < (a0.size : Int) then (if (bt a0 0) < 97 then (perigeeref7_IsWord.j0 k a0 true) else (perigeeref7_IsWord.j0 k a0 (decide ((bt a0 0) > 122)))) else (none)) else (perigeeref7_IsWord.j0 k a0 true))
end Go.Proofs.Ytcefbdknoelacaa.P

-- YtcefbdknoelacaaF21
namespace Go.Proofs.Ytcefbdknoelacaa.P
open Go.RowKit Go.Proofs.YtcefbdknoelacaaW.PrintWords Go.Proofs.YtcefbdknoelacaaW.PrintLast Go.Proofs.YtcefbdknoelacaaW.PrintMore
attribute [local go_sem] max2_int min2_int max_two min_two max_three min_three max_four min_four Go.Proofs.Ytcefbdknoelacaa.Strs.leqS Go.Proofs.Ytcefbdknoelacaa.Strs.gtrS Go.Proofs.Ytcefbdknoelacaa.Strs.geqS   -- for this text's walks alone
set_option linter.unusedVariables false
set_option linter.unusedSimpArgs false

def perigeeref7_ends.f (a0_0 : ByteArray) (a0_1 : Int) (a0_2 : Bool) (l0_3 : List (S91)) (l0_4 : List (S89)) : Option (Int × Int) := if a0_2 = true then (if 0 ≤ (wrap64 (a0_1 - 1)) then (some (shl .i64 (-1) (wrap64 (a0_1 - 1)), wrap64 ((shl .i64 1 (wrap64 (a0_1 - 1))) - 1))) else (none)) else (if 0 ≤ a0_1 then (some (0, wrap64 ((shl .i64 1 a0_1) - 1))) else (none))
end Go.Proofs.Ytcefbdknoelacaa.P

-- YtcefbdknoelacaaF22
namespace Go.Proofs.Ytcefbdknoelacaa.P
open Go.RowKit Go.Proofs.YtcefbdknoelacaaW.PrintWords Go.Proofs.YtcefbdknoelacaaW.PrintLast Go.Proofs.YtcefbdknoelacaaW.PrintMore
attribute [local go_sem] max2_int min2_int max_two min_two max_three min_three max_four min_four Go.Proofs.Ytcefbdknoelacaa.Strs.leqS Go.Proofs.Ytcefbdknoelacaa.Strs.gtrS Go.Proofs.Ytcefbdknoelacaa.Strs.geqS   -- for this text's walks alone
set_option linter.unusedVariables false
set_option linter.unusedSimpArgs false

def perigeeref7_isRaw.f (a0_0 : ByteArray) (a0_1 : Int) (a0_2 : Bool) (l0_3 : List (S91)) (l0_4 : List (S89)) (a1 : Int) : Option (Bool) := (perigeeref7_ends.f a0_0 a0_1 a0_2 l0_3 l0_4).bind fun bt171 => ((perigeeref7_within.f a1 bt171.1 bt171.2).bind fun t173 => (some t173))
end Go.Proofs.Ytcefbdknoelacaa.P

-- YtcefbdknoelacaaF23
namespace Go.Proofs.Ytcefbdknoelacaa.P
open Go.RowKit Go.Proofs.YtcefbdknoelacaaW.PrintWords Go.Proofs.YtcefbdknoelacaaW.PrintLast Go.Proofs.YtcefbdknoelacaaW.PrintMore
attribute [local go_sem] max2_int min2_int max_two min_two max_three min_three max_four min_four Go.Proofs.Ytcefbdknoelacaa.Strs.leqS Go.Proofs.Ytcefbdknoelacaa.Strs.gtrS Go.Proofs.Ytcefbdknoelacaa.Strs.geqS   -- for this text's walks alone
set_option linter.unusedVariables false
set_option linter.unusedSimpArgs false

mutual
def perigeeref7_checkPoints.l0 : Nat → List (S91) → Int → Int → ByteArray → Int → Bool → List (S91) → List (S89) → Option (Int)
 | 0, _, _, _, _, _, _, _, _ => none
 | k + 1, x16, x17, x18, x175000, x175001, x175002, x175003, x175004 => if x18 < x17 then (if 0 ≤ x18 then (if x18 < (x16.length : Int) then ((perigeeref7_isRaw.f x175000 x175001 x175002 x175003 x175004 ((rd_T91 x16 x18).f0)).bind fun t177 => (if t177 = true then ((perigeeref7_within.f ((rd_T91 x16 x18).f1) (-1000000000) 1000000000).bind fun t178 => (perigeeref7_checkPoints.j1 k x18 x16 x17 x18 (!t178) x175000 x175001 x175002 x175003 x175004 ((rd_T91 x16 x18).f0) ((rd_T91 x16 x18).f1))) else (perigeeref7_checkPoints.j1 k x18 x16 x17 x18 true x175000 x175001 x175002 x175003 x175004 ((rd_T91 x16 x18).f0) ((rd_T91 x16 x18).f1)))) else (none)) else (none)) else (if (x175004.length : Int) > 50 then (some 2) else (perigeeref7_checkPoints.l1 k x175004 (x175004.length : Int) 0 x175000 x175001 x175002 x175003 x175004))
def perigeeref7_checkPoints.j1 : Nat → Int → List (S91) → Int → Int → Bool → ByteArray → Int → Bool → List (S91) → List (S89) → Int → Int → Option (Int)
 | 0, _, _, _, _, _, _, _, _, _, _, _, _ => none
 | k + 1, x3, x16, x17, x18, x33, x175000, x175001, x175002, x175003, x175004, x177000, x177001 => if x33 = true then (some 1) else (if x3 > 0 then (if 0 ≤ (wrap64 (x3 - 1)) then (if (wrap64 (x3 - 1)) < (x175003.length : Int) then (if x177000 ≤ ((rd_T91 x175003 (wrap64 (x3 - 1))).f0) then (some 8) else (perigeeref7_checkPoints.l0 k x16 x17 (wrap64 (x18 + 1)) x175000 x175001 x175002 x175003 x175004)) else (none)) else (none)) else (perigeeref7_checkPoints.l0 k x16 x17 (wrap64 (x18 + 1)) x175000 x175001 x175002 x175003 x175004))
def perigeeref7_checkPoints.l1 : Nat → List (S89) → Int → Int → ByteArray → Int → Bool → List (S91) → List (S89) → Option (Int)
 | 0, _, _, _, _, _, _, _, _ => none
 | k + 1, x54, x55, x56, x175000, x175001, x175002, x175003, x175004 => if x56 < x55 then (if 0 ≤ x56 then (if x56 < (x54.length : Int) then ((perigeeref7_isRaw.f x175000 x175001 x175002 x175003 x175004 ((rd_T89 x54 x56).f0)).bind fun t182 => (if t182 = true then ((perigeeref7_IsWord.f k ((rd_T89 x54 x56).f1)).bind fun t183 => (if t183 = true then (if x56 > 0 then (if 0 ≤ (wrap64 (x56 - 1)) then (if (wrap64 (x56 - 1)) < (x175004.length : Int) then (if ((rd_T89 x54 x56).f0) ≤ ((rd_T89 x175004 (wrap64 (x56 - 1))).f0) then (some 8) else (perigeeref7_checkPoints.l1 k x54 x55 (wrap64 (x56 + 1)) x175000 x175001 x175002 x175003 x175004)) else (none)) else (none)) else (perigeeref7_checkPoints.l1 k x54 x55 (wrap64 (x56 + 1)) x175000 x175001 x175002 x175003 x175004)) else (some 5))) else (some 1))) else (none)) else (none)) else (some 0)
end
def perigeeref7_checkPoints.f (k : Nat) (a0_0 : ByteArray) (a0_1 : Int) (a0_2 : Bool) (l0_3 : List (S91)) (l0_4 : List (S89)) : Option (Int) := if (l0_3.length : Int) > 50 then (some 2) else (if (l0_3.length : Int) = 1 then (some 3) else (perigeeref7_checkPoints.l0 k l0_3 (l0_3.length : Int) 0 a0_0 a0_1 a0_2 l0_3 l0_4))
end Go.Proofs.Ytcefbdknoelacaa.P

-- YtcefbdknoelacaaF24
namespace Go.Proofs.Ytcefbdknoelacaa.P
open Go.RowKit Go.Proofs.YtcefbdknoelacaaW.PrintWords Go.Proofs.YtcefbdknoelacaaW.PrintLast Go.Proofs.YtcefbdknoelacaaW.PrintMore
attribute [local go_sem] max2_int min2_int max_two min_two max_three min_three max_four min_four Go.Proofs.Ytcefbdknoelacaa.Strs.leqS Go.Proofs.Ytcefbdknoelacaa.Strs.gtrS Go.Proofs.Ytcefbdknoelacaa.Strs.geqS   -- for this text's walks alone
set_option linter.unusedVariables false
set_option linter.unusedSimpArgs false

def perigeeref7_CheckParameters.l0 : Nat → List (S44) → List (S44) → Int → Int → Option (Int)
 | 0, _, _, _, _ => none
 | k + 1, x0, x9, x10, x11 => if x11 < x10 then (if 0 ≤ x11 then (if x11 < (x9.length : Int) then ((perigeeref7_IsWord.f k ((rd_T44 x9 x11).f0)).bind fun t187 => (if t187 = true then ((perigeeref7_within.f ((rd_T44 x9 x11).f1) 1 24).bind fun t188 => (if t188 = true then ((perigeeref7_checkPoints.f k ((rd_T44 x9 x11).f0) ((rd_T44 x9 x11).f1) ((rd_T44 x9 x11).f2) ((rd_T44 x9 x11).f3) ((rd_T44 x9 x11).f4)).bind fun t189 => (if t189 = 0 then (if x11 > 0 then (if 0 ≤ (wrap64 (x11 - 1)) then (if (wrap64 (x11 - 1)) < (x0.length : Int) then (if ((Op.bytesLess (((rd_T44 x0 (wrap64 (x11 - 1))).f0).toList) (((rd_T44 x9 x11).f0).toList)) = true) then (perigeeref7_CheckParameters.l0 k x0 x9 x10 (wrap64 (x11 + 1))) else (some 8)) else (none)) else (none)) else (perigeeref7_CheckParameters.l0 k x0 x9 x10 (wrap64 (x11 + 1)))) else (some t189))) else (some 1))) else (some 5))) else (none)) else (none)) else (some 0)
def perigeeref7_CheckParameters.f (k : Nat) (l0 : List (S44)) : Option (Int) := if (l0.length : Int) > 500 then (some 2) else (perigeeref7_CheckParameters.l0 k l0 l0 (l0.length : Int) 0)
end Go.Proofs.Ytcefbdknoelacaa.P

-- YtcefbdknoelacaaOpens
set_option linter.unusedVariables false
set_option linter.unusedSimpArgs false
namespace Go.Proofs.Ytcefbdknoelacaa.Open
open Go.RowKit Go.Proofs.YtcefbdknoelacaaW.PrintWords

def Opens {α : Type} (P : Program) (d : Kd α) (t : TypeId) (ok : α → Prop) : Prop :=
 ∀ {H : Type} {enc : TypeId × Value → H} {w : World} {fuel : Nat} {cs : List Value} {x : DataW H × List MemPlace},
  DataW.trod enc P w 0 (fun _ => true) true fuel t cs = some x → (∀ n ∈ x.1.weights P t, n ≤ reachBytes) → ∃ y, d.K w y cs ∧ ok y

theorem opens_bool {P : Program} {t : TypeId} (ht : P.underlying t = some .bool) : Opens P Kd.bool t (fun _ => True) := by
 intro H enc w fuel cs x h _
 obtain ⟨b, rfl, _⟩ := DataW.trod_bool ht h
 exact ⟨b, rfl, trivial⟩

theorem opens_int {P : Program} {t : TypeId} {k : IntKind} (ht : P.underlying t = some (.int k)) : Opens P (Kd.int k) t (fun n => (Lit.int k n).wf = true) := by
 intro H enc w fuel cs x h _
 obtain ⟨n, rfl, _, hw⟩ := DataW.trod_int ht h
 exact ⟨n, rfl, hw⟩

theorem opens_i64 {P : Program} {t : TypeId} (ht : P.underlying t = some (.int .i64)) : Opens P (Kd.int .i64) t (fun n => -9223372036854775808 ≤ n ∧ n ≤ 9223372036854775807) := by
 intro H enc w fuel cs x h hx
 obtain ⟨y, hy, hw⟩ := opens_int ht h hx
 refine ⟨y, hy, ?_⟩
 simp [Lit.wf, IntKind.min, IntKind.max, IntKind.bits, IntKind.signed] at hw
 omega

theorem opens_string {P : Program} {t : TypeId} (ht : P.underlying t = some .string) : Opens P Kd.string t (fun s => s.size ≤ 140737488351232) := by
 intro H enc w fuel cs x h hx
 obtain ⟨s, rfl, rfl, hw⟩ := DataW.trod_string ht h
 refine ⟨s, rfl, ?_⟩
 have := hx s.data.toList.length (by simp [DataW.weights])
 rw [data_length] at this
 simpa [reachBytes] using this

theorem opens_iso {α β : Type} {P : Program} {d : Kd α} {t : TypeId} {ok : α → Prop} (f : β → α) (g : α → β) (hg : ∀ y, f (g y) = y) (h : Opens P d t ok) : Opens P (Kd.iso d f) t (fun x => ok (f x)) := by
 intro H enc w fuel cs x hx hw
 obtain ⟨y, hy, ho⟩ := h hx hw
 exact ⟨g y, by show d.K w (f (g y)) cs; rw [hg]; exact hy, by show ok (f (g y)); rw [hg]; exact ho⟩

theorem list_of {α : Type} (p : Nat → α → Prop) : ∀ n : Nat, (∀ i, i < n → ∃ y, p i y) → ∃ l : List α, l.length = n ∧ ∀ i y, l[i]? = some y → p i y := by
 intro n
 induction n with
 | zero => intro _; exact ⟨[], rfl, fun i y h => by simp at h⟩
 | succ n ih =>
  intro h
  obtain ⟨l, hl, hp⟩ := ih (fun i hi => h i (by omega))
  obtain ⟨y, hy⟩ := h n (by omega)
  refine ⟨l ++ [y], by simp [hl], fun i z hz => ?_⟩
  by_cases hi : i < l.length
  ·exact hp i z (by rwa [List.getElem?_append_left hi] at hz)
  ·rw [List.getElem?_append_right (by omega)] at hz
   have hi2 : i - l.length < 1 := by
    rcases Nat.lt_or_ge (i - l.length) 1 with h | h
    ·exact h
    ·rw [List.getElem?_eq_none (by simpa using h)] at hz
     cases hz
   have e : i = n := by omega
   subst e
   rw [hl] at hz
   simp at hz
   subst hz
   exact hy

theorem weightsAll_mem {H : Type} {P : Program} {e : TypeId} {d : DataW H} : ∀ {l : List (DataW H)}, d ∈ l → ∀ n ∈ d.weights P e, n ∈ DataW.weightsAll P e l := by
 intro l
 induction l with
 | nil => intro h; cases h
 | cons a l ih =>
  intro h n hn
  rw [DataW.weightsAll, List.mem_append]
  rcases List.mem_cons.1 h with rfl | h
  ·exact .inl hn
  ·exact .inr (ih h n hn)

theorem opens_slice {α : Type} {P : Program} {d : Kd α} {t e : TypeId} {ok : α → Prop} {B : Nat} (ht : P.underlying t = some (.slice e)) (hc : P.cellsOf e = d.sz) (hB : P.bytesOf e = B) (h : Opens P d e ok) :
 Opens P (Kd.slice e d) t (fun xs => xs.length ≤ 9223372036854775807 ∧ xs.length * B ≤ 140737488351232 ∧ ∀ x ∈ xs, ok x) := by
 intro H enc w fuel cs x hx hw
 rcases DataW.trod_slice ht hx with ⟨rfl, rfl⟩ | ⟨a, len, cap, elems, rest, n, _, rfl, rfl, hb, hl, hm, hlen, hel, hsp, _⟩
 ·exact ⟨[], ⟨none, 0, rfl, Nat.le_refl _, Kd.C_nil d w⟩, by simp, by simp, by simp⟩
 ·have each : ∀ i, i < len → ∃ y, (∃ c, c.length = d.sz ∧ d.K w y c ∧ ∀ j u, c[j]? = some u → w.cell? (a.add (i * d.sz + j)) = some u) ∧ ok y := by
   intro i hi
   have h1 := hel i hi
   have hi2 : i < elems.length := by omega
   rw [List.getElem?_eq_getElem hi2, Option.bind_eq_some_iff] at h1
   obtain ⟨c, hcs, h2⟩ := h1
   obtain ⟨_, hcl, hcc⟩ := World.cells?_some hcs
   obtain ⟨y, hy, ho⟩ := h h2 (fun m hm => hw m (by
    rw [DataW.weights]
    simp only [ht, List.mem_cons, List.mem_append]
    exact .inr (.inl (weightsAll_mem (List.mem_map_of_mem (f := Prod.fst) (List.getElem_mem hi2)) m hm))))
   refine ⟨y, ⟨c, by rw [hcl, hc], hy, fun j u hu => ?_⟩, ho⟩
   have hj : j < P.cellsOf e := by
    rcases Nat.lt_or_ge j c.length with h | h
    ·omega
    ·rw [List.getElem?_eq_none h] at hu
     cases hu
   have := hcc j hj
   rw [hu, Go.Addr.add_add, hc] at this
   exact this
  obtain ⟨l, hll, hp⟩ := list_of _ len each
  have hlb : len * B ≤ 140737488351232 := by
   have h1 : ((elems.map (·.1)).length + (rest.map (·.1)).length) * P.bytesOf e ≤ reachBytes := hw _ (by
    rw [DataW.weights]
    simp only [ht]
    exact List.mem_cons_self)
   rw [hB] at h1
   have h2 : len * B ≤ ((elems.map (·.1)).length + (rest.map (·.1)).length) * B := Nat.mul_le_mul_right _ (by simp; omega)
   simpa [reachBytes] using Nat.le_trans h2 h1
  refine ⟨l, ⟨some a, cap, by rw [hll], by omega, ⟨rfl, by simp only [maxLen] at hm; omega, fun _ => ⟨a, rfl, fun j p hj => (hp j p hj).1⟩⟩⟩, by simp only [maxLen] at hm; omega, by rw [hll]; exact hlb, fun x hx => ?_⟩
  obtain ⟨i, hi⟩ := List.getElem?_of_mem hx
  exact (hp i x hi).2

def Fields {α : Type} (P : Program) (d : Kd α) (fs : List Field) (off tot : Nat) (ok : α → Prop) : Prop :=
 ∀ {H : Type} {enc : TypeId × Value → H} {w : World} {n : Nat} {cs : List Value} {xs : List (DataW H × List MemPlace)}, cs.length = tot → xs.length = fs.length →
  (∀ (i : Nat) (f : Field), fs[i]? = some f → DataW.trod enc P w 0 (fun _ => true) true n f.type ((cs.drop f.offset).take (P.cellsOf f.type)) = xs[i]?) →
  (∀ m ∈ DataW.weightsEach P (fs.map (·.type)) (xs.map (·.1)), m ≤ reachBytes) → ∃ y, d.K w y (cs.drop off) ∧ ok y

theorem fields_last {α : Type} {P : Program} {d : Kd α} {f : Field} {off tot : Nat} {ok : α → Prop} (h : Opens P d f.type ok) (ho : f.offset = off) (hc : off + P.cellsOf f.type = tot) : Fields P d [f] off tot ok := by
 intro H enc w n cs xs hcs hxs hf hw
 obtain ⟨x, rfl⟩ : ∃ x, xs = [x] := by
  match xs, hxs with
  | [x], _ => exact ⟨x, rfl⟩
 have h1 := hf 0 f rfl
 rw [ho, List.take_of_length_le (by simp; omega)] at h1
 exact h h1 (fun m hm => hw m (by simpa [DataW.weightsEach] using hm))

theorem fields_cons {α β : Type} {P : Program} {a : Kd α} {b : Kd β} {f : Field} {fs : List Field} {off tot : Nat} {okA : α → Prop} {okB : β → Prop} (h : Opens P a f.type okA) (ho : f.offset = off) (hs : Fields P b fs (off + P.cellsOf f.type) tot okB) :
 Fields P (Kd.pair a b) (f :: fs) off tot (fun y => okA y.1 ∧ okB y.2) := by
 intro H enc w n cs xs hcs hxs hf hw
 match xs, hxs with
 | x :: xs, hxs =>
  have h1 := hf 0 f rfl
  rw [ho] at h1
  obtain ⟨y, hy, hoy⟩ := h (x := x) h1 (fun m hm => hw m (by simp [DataW.weightsEach]; exact .inl hm))
  obtain ⟨z, hz, hoz⟩ := hs (xs := xs) hcs (by simpa using hxs) (fun i g hg => by have := hf (i + 1) g (by simpa using hg); simpa using this) (fun m hm => hw m (by
   simp only [List.map_cons, DataW.weightsEach, List.mem_append]
   exact .inr hm))
  exact ⟨(y, z), ⟨_, _, by rw [← List.drop_drop, List.take_append_drop], hy, hz⟩, hoy, hoz⟩

theorem opens_struct {α : Type} {P : Program} {d : Kd α} {t : TypeId} {fs : Array Field} {tot : Nat} {ok : α → Prop} (ht : P.underlying t = some (.struct fs)) (hc : P.cellsOf t = tot) (h : Fields P d fs.toList 0 tot ok) : Opens P d t ok := by
 intro H enc w fuel cs x hx hw
 obtain ⟨xs, n, _, rfl, hcl, hxl, hf⟩ := DataW.trod_struct ht hx
 have := h (enc := enc) (w := w) (n := n) (cs := cs) (xs := xs) (by rw [hcl, hc]) (by simpa using hxl) (fun i f hi => hf i f (by simpa using hi)) (fun m hm => hw m (by
  rw [DataW.weights]
  simp only [ht]
  exact hm))
 simpa using this

theorem param_slice {α : Type} {H : Type} {enc : TypeId × Value → H} {P : Program} {d : Kd α} {t e : TypeId} {ok : List α → Prop} {w : World} {a : Option Addr} {len cap : Nat} {x : DataW H} {ps : List MemPlace} {ts : List TypeId} {ds : List (DataW H)} {j : Nat}
 (hsz : (DataW.weightsEach P ts ds).all (· ≤ reachBytes) = true) (hj : ts[j]? = some t) (hd : ds[j]? = some x) (h : DataW.Trod enc P w 0 (fun _ => true) true t (.slice a len cap) x ps) (ho : Opens P (Kd.slice e d) t ok) :
 ∃ l, len = l.length ∧ l.length ≤ cap ∧ d.C w a l.length l ∧ ok l := by
 obtain ⟨fuel, hf⟩ := h
 obtain ⟨l, ⟨A, c, he, hl, hC⟩, hok⟩ := ho hf (weights_of hsz hj hd)
 simp [Value.cells] at he
 obtain ⟨rfl, rfl, rfl⟩ := he
 exact ⟨l, rfl, hl, hC, hok⟩
 where
 weights_of {H : Type} {P : Program} {t : TypeId} {x : DataW H} : ∀ {ts : List TypeId} {ds : List (DataW H)} {j : Nat}, (DataW.weightsEach P ts ds).all (· ≤ reachBytes) = true → ts[j]? = some t → ds[j]? = some x → ∀ n ∈ x.weights P t, n ≤ reachBytes := by
  intro ts
  induction ts with
  | nil => intro ds j _ h; simp at h
  | cons a ts ih =>
   intro ds j hw ht hd n hn
   match ds with
   | [] => simp at hd
   | d :: ds =>
    rw [DataW.weightsEach, List.all_append, Bool.and_eq_true] at hw
    cases j with
    | zero =>
     simp at ht hd
     subst ht; subst hd
     simpa using List.all_eq_true.1 hw.1 n hn
    | succ j => exact ih hw.2 (by simpa using ht) (by simpa using hd) n hn

theorem param_any {α : Type} {H : Type} {enc : TypeId × Value → H} {P : Program} {d : Kd α} {t : TypeId} {ok : α → Prop} {w : World} {v : Value} {x : DataW H} {ps : List MemPlace} {ts : List TypeId} {ds : List (DataW H)} {j : Nat}
 (hsz : (DataW.weightsEach P ts ds).all (· ≤ reachBytes) = true) (hj : ts[j]? = some t) (hd : ds[j]? = some x) (h : DataW.Trod enc P w 0 (fun _ => true) true t v x ps) (ho : Opens P d t ok) :
 ∃ y, d.K w y v.cells.toList ∧ ok y := by
 obtain ⟨fuel, hf⟩ := h
 exact ho hf (param_slice.weights_of hsz hj hd)

def OkI (n : Int) : Prop := -9223372036854775808 ≤ n ∧ n ≤ 9223372036854775807
def OkB (_ : Bool) : Prop := True
def OkS (s : ByteArray) : Prop := s.size ≤ 140737488351232
def OkL {α : Type} (B : Nat) (ok : α → Prop) (xs : List α) : Prop := xs.length ≤ 9223372036854775807 ∧ xs.length * B ≤ 140737488351232 ∧ ∀ x ∈ xs, ok x

end Go.Proofs.Ytcefbdknoelacaa.Open

-- YtcefbdknoelacaaOk
set_option linter.unusedVariables false
namespace Go.Proofs.Ytcefbdknoelacaa.P
open Go.RowKit Go.Proofs.Ytcefbdknoelacaa.Open Go.Proofs.Ytcefbdknoelacaa.P Go.Proofs.YtcefbdknoelacaaW.PrintWords Go.Proofs.YtcefbdknoelacaaW.PrintLast Go.Proofs.YtcefbdknoelacaaW.PrintMore

def ok91 (x : S91) : Prop := OkI x.f0 ∧ OkI x.f1
set_option maxRecDepth 100000 in
theorem opens91 : Opens Try.prog k91 91 ok91 := opens_iso _ (fun y => ⟨y.1, y.2⟩) (fun _ => rfl) (opens_struct (tot := 2) Try.underlying91 (by kernel_rfl) (fields_cons (opens_i64 Try.underlying3) (by kernel_rfl) (fields_last (opens_i64 Try.underlying3) (by kernel_rfl) (by kernel_rfl))))
def ok89 (x : S89) : Prop := OkI x.f0 ∧ OkS x.f1
set_option maxRecDepth 100000 in
theorem opens89 : Opens Try.prog k89 89 ok89 := opens_iso _ (fun y => ⟨y.1, y.2⟩) (fun _ => rfl) (opens_struct (tot := 2) Try.underlying89 (by kernel_rfl) (fields_cons (opens_i64 Try.underlying3) (by kernel_rfl) (fields_last (opens_string Try.underlying9) (by kernel_rfl) (by kernel_rfl))))
def ok44 (x : S44) : Prop := OkS x.f0 ∧ OkI x.f1 ∧ OkB x.f2 ∧ (OkL 16 ok91) x.f3 ∧ (OkL 24 ok89) x.f4
set_option maxRecDepth 100000 in
theorem opens44 : Opens Try.prog k44 44 ok44 := opens_iso _ (fun y => ⟨y.1, y.2.1, y.2.2.1, y.2.2.2.1, y.2.2.2.2⟩) (fun _ => rfl) (opens_struct (tot := 5) Try.underlying44 (by kernel_rfl) (fields_cons (opens_string Try.underlying9) (by kernel_rfl) (fields_cons (opens_i64 Try.underlying3) (by kernel_rfl) (fields_cons (opens_bool Try.underlying4) (by kernel_rfl) (fields_cons (opens_slice Try.underlying41 (by kernel_rfl) (by kernel_rfl) opens91) (by kernel_rfl) (fields_last (opens_slice Try.underlying42 (by kernel_rfl) (by kernel_rfl) opens89) (by kernel_rfl) (by kernel_rfl)))))))
end Go.Proofs.Ytcefbdknoelacaa.P

-- YtcefbdknoelacaaQ1
set_option linter.unusedVariables false
set_option linter.unusedSimpArgs false
namespace Go.Proofs.Ytcefbdknoelacaa.Pure
open Go.RowKit Go.Proofs.Ytcefbdknoelacaa.Open Go.Proofs.Ytcefbdknoelacaa.P Go.Proofs.YtcefbdknoelacaaW.PrintWords Go.Proofs.YtcefbdknoelacaaW.PrintLast Go.Proofs.YtcefbdknoelacaaW.PrintMore

theorem in_ev (a l h : Int) : kit_In.f a l h = some (decide (l ≤ a ∧ a ≤ h)) := by
 unfold kit_In.f
 by_cases h1 : l ≤ a <;> simp [h1]
theorem within_ev (a l h : Int) : perigeeref7_within.f a l h = some (decide (l ≤ a ∧ a ≤ h)) := by
 unfold perigeeref7_within.f
 by_cases h1 : l ≤ a <;> simp [h1]

theorem word_loop (s : ByteArray) (hs : s.size ≤ 140737488351232) : ∀ (d i : Nat), i + d = s.size → (i = 0 → 97 ≤ bt s 0 ∧ bt s 0 ≤ 122) →
 Twin (fun k => telemetry_Word.l0 k s (s.size : Int) i) (fun k => perigeeref7_IsWord.l0 k s (s.size : Int) i) (fun a b => a = b) := by
 intro d
 induction d with
 | zero =>
  intro i hi h0
  refine Twin.stepL (fun k => by rw [telemetry_Word.l0]) (Twin.stepR (fun k => by rw [perigeeref7_IsWord.l0]) ?_)
  repeat' (first | (exfalso; omega) | (refine Twin.ifL (fun h_ => ?_) (fun h_ => ?_)) | (refine Twin.ifR (fun h_ => ?_) (fun h_ => ?_)))
  exact Twin.now rfl
 | succ d ih =>
  intro i hi h0
  have next := ih (i + 1) (by omega) (by omega)
  refine Twin.stepL (fun k => by rw [telemetry_Word.l0]) (Twin.stepR (fun k => by rw [perigeeref7_IsWord.l0]) ?_)
  rw [w64 (x := (i : Int) + 1) (by omega) (by omega)]
  have h1 : (i : Int) = 0 → 97 ≤ bt s i ∧ bt s i ≤ 122 := by
   intro h
   rw [h]
   exact h0 (by omega)
  generalize bt s i = c at h1
  repeat' (first | (exfalso; omega) | (refine Twin.ifL (fun h_ => ?_) (fun h_ => ?_)) | (refine Twin.ifR (fun h_ => ?_) (fun h_ => ?_)))
  all_goals first | exact next | exact Twin.now rfl
theorem word_ev (s : ByteArray) (hs : OkS s) : ∃ b, Ev (fun k => telemetry_Word.f k s) b ∧ Ev (fun k => perigeeref7_IsWord.f k s) b := by
 have hs : s.size ≤ 140737488351232 := hs
 have : Twin (fun k => telemetry_Word.f k s) (fun k => perigeeref7_IsWord.f k s) (fun a b => a = b) := by
  unfold telemetry_Word.f perigeeref7_IsWord.f
  simp only [within_ev, Option.bind_some, empty_iff, decide_eq_true_eq]
  repeat' (first | (exfalso; omega) | (refine Twin.ifL (fun h_ => ?_) (fun h_ => ?_)) | (refine Twin.ifR (fun h_ => ?_) (fun h_ => ?_)))
  all_goals (try refine Twin.stepL (fun k => by rw [telemetry_Word.j0]) ?_)
  all_goals (try refine Twin.stepR (fun k => by rw [perigeeref7_IsWord.j0]) ?_)
  all_goals simp only [decide_eq_true_eq, if_true]
  all_goals (repeat' (first | (exfalso; omega) | (refine Twin.ifL (fun h_ => ?_) (fun h_ => ?_)) | (refine Twin.ifR (fun h_ => ?_) (fun h_ => ?_))))
  all_goals first | exact Twin.now rfl | exact word_loop s hs s.size 0 (by omega) (fun _ => by omega) | (refine Twin.stepL (fun k => by rw [telemetry_Word.l0]) ?_; (repeat' (first | (exfalso; omega) | (refine Twin.ifL (fun h_ => ?_) (fun h_ => ?_)) | (refine Twin.ifR (fun h_ => ?_) (fun h_ => ?_)))); exact Twin.now rfl)
 obtain ⟨a, b, h1, h2, rfl⟩ := this
 exact ⟨a, h1, h2⟩

theorem shl_one : ∀ n : Nat, n ≤ 24 → shl .i64 1 (n : Int) = ((2 ^ n : Nat) : Int) := by
 intro n hn
 have : ∀ m : Fin 25, shl .i64 1 ((m.val : Nat) : Int) = ((2 ^ m.val : Nat) : Int) := by decide +kernel
 exact this ⟨n, by omega⟩
theorem shl_neg : ∀ n : Nat, n ≤ 24 → shl .i64 (-1) (n : Int) = -((2 ^ n : Nat) : Int) := by
 intro n hn
 have : ∀ m : Fin 25, shl .i64 (-1) ((m.val : Nat) : Int) = -((2 ^ m.val : Nat) : Int) := by decide +kernel
 exact this ⟨n, by omega⟩
def lo (p : S44) : Int := if p.f2 = true then -((2 ^ (p.f1 - 1).toNat : Nat) : Int) else 0
def hi (p : S44) : Int := if p.f2 = true then ((2 ^ (p.f1 - 1).toNat : Nat) : Int) - 1 else ((2 ^ p.f1.toNat : Nat) : Int) - 1
theorem pow_bd : ∀ n : Nat, n ≤ 24 → 1 ≤ 2 ^ n ∧ 2 ^ n ≤ 16777216 := by decide +kernel
theorem span_ev (p : S44) (h : 1 ≤ p.f1 ∧ p.f1 ≤ 24) : telemetry_span.f p.f0 p.f1 p.f2 p.f3 p.f4 = some (lo p, hi p) := by
 obtain ⟨n, hn⟩ : ∃ n : Nat, p.f1 = (n : Int) + 1 := ⟨(p.f1 - 1).toNat, by omega⟩
 have b1 := pow_bd n (by omega)
 have b2 := pow_bd (n + 1) (by omega)
 unfold telemetry_span.f lo hi
 rw [hn, w64 (x := (n : Int) + 1 - 1) (by omega) (by omega), show (n : Int) + 1 - 1 = n by omega, shl_neg n (by omega), shl_one n (by omega), show ((n : Int) + 1) = ((n + 1 : Nat) : Int) by omega, shl_one (n + 1) (by omega)]
 rw [w64 (by omega) (by omega), w64 (by omega) (by omega)]
 simp only [Int.toNat_natCast]
 by_cases hb : p.f2 = true
 ·simp [hb]
 ·simp [hb]
  omega
theorem ends_ev (p : S44) (h : 1 ≤ p.f1 ∧ p.f1 ≤ 24) : perigeeref7_ends.f p.f0 p.f1 p.f2 p.f3 p.f4 = some (lo p, hi p) := by
 rw [← span_ev p h]; rfl
theorem isRaw_ev (p : S44) (h : 1 ≤ p.f1 ∧ p.f1 ≤ 24) (n : Int) : perigeeref7_isRaw.f p.f0 p.f1 p.f2 p.f3 p.f4 n = some (decide (lo p ≤ n ∧ n ≤ hi p)) := by
 unfold perigeeref7_isRaw.f
 rw [ends_ev p h]
 simp only [Option.bind_some, within_ev]
theorem span_bd (p : S44) (h : 1 ≤ p.f1 ∧ p.f1 ≤ 24) : -16777216 ≤ lo p ∧ hi p ≤ 16777216 := by
 have b1 := pow_bd (p.f1 - 1).toNat (by omega)
 have b2 := pow_bd p.f1.toNat (by omega)
 unfold lo hi
 constructor
 ·split <;> omega
 ·split <;> omega

def Dots (p : S44) (i : Nat) : Prop := ∀ j : Nat, i ≤ j → j < p.f3.length → (lo p ≤ (rd_T91 p.f3 j).f0 ∧ (rd_T91 p.f3 j).f0 ≤ hi p) ∧ (-1000000000 ≤ (rd_T91 p.f3 j).f1 ∧ (rd_T91 p.f3 j).f1 ≤ 1000000000) ∧ (0 < j → (rd_T91 p.f3 ((j : Int) - 1)).f0 < (rd_T91 p.f3 j).f0)
theorem dots_loop (p : S44) (hb : 1 ≤ p.f1 ∧ p.f1 ≤ 24) (hl : p.f3.length ≤ 50) (s : Int)
 (hs : Ev (fun k => if (p.f4.length : Int) > 50 then some 2 else perigeeref7_checkPoints.l1 k p.f4 (p.f4.length : Int) 0 p.f0 p.f1 p.f2 p.f3 p.f4) s) : ∀ (d i : Nat), i + d = p.f3.length →
 Twin (fun k => telemetry_checkDots.l0 k (lo p) (hi p) p.f3 (p.f3.length : Int) i p.f0 p.f1 p.f2 p.f3 p.f4) (fun k => perigeeref7_checkPoints.l0 k p.f3 (p.f3.length : Int) i p.f0 p.f1 p.f2 p.f3 p.f4)
  (fun a b => b = (if a = 0 then s else a) ∧ (a = 0 → Dots p i)) := by
 intro d
 induction d with
 | zero =>
  intro i hij
  refine Twin.stepL (fun k => by rw [telemetry_checkDots.l0]) (Twin.stepR (fun k => by rw [perigeeref7_checkPoints.l0]) ?_)
  refine Twin.noL (by omega) (Twin.noR (by omega) ?_)
  exact ⟨0, s, Ev.now _, hs, rfl, fun _ j h1 h2 => by omega⟩
 | succ d ih =>
  intro i hij
  have next := ih (i + 1) (by omega)
  refine Twin.stepL (fun k => by rw [telemetry_checkDots.l0]) (Twin.stepR (fun k => by rw [perigeeref7_checkPoints.l0]) ?_)
  simp only [in_ev, isRaw_ev p hb, within_ev, Option.bind_some, decide_eq_true_eq]
  have h1 : ((i : Nat) : Int) < (p.f3.length : Int) := by omega
  simp only [if_pos h1, if_pos (show (0 : Int) ≤ (i : Int) by omega)]
  have add : ∀ b : Bool, (b = true → ¬ ((lo p ≤ (rd_T91 p.f3 i).f0 ∧ (rd_T91 p.f3 i).f0 ≤ hi p) ∧ (-1000000000 ≤ (rd_T91 p.f3 i).f1 ∧ (rd_T91 p.f3 i).f1 ≤ 1000000000))) → (b = false → ((lo p ≤ (rd_T91 p.f3 i).f0 ∧ (rd_T91 p.f3 i).f0 ≤ hi p) ∧ (-1000000000 ≤ (rd_T91 p.f3 i).f1 ∧ (rd_T91 p.f3 i).f1 ≤ 1000000000))) →
   Twin (fun k => telemetry_checkDots.j1 k (lo p) (hi p) i p.f3 (p.f3.length : Int) i b p.f0 p.f1 p.f2 p.f3 p.f4 (rd_T91 p.f3 i).f0 (rd_T91 p.f3 i).f1) (fun k => perigeeref7_checkPoints.j1 k i p.f3 (p.f3.length : Int) i b p.f0 p.f1 p.f2 p.f3 p.f4 (rd_T91 p.f3 i).f0 (rd_T91 p.f3 i).f1)
    (fun a b => b = (if a = 0 then s else a) ∧ (a = 0 → Dots p i)) := by
   intro b hb1 hb2
   refine Twin.stepL (fun k => by rw [telemetry_checkDots.j1]) (Twin.stepR (fun k => by rw [perigeeref7_checkPoints.j1]) ?_)
   rw [w64 (x := (i : Int) - 1) (by omega) (by omega), w64 (x := (i : Int) + 1) (by omega) (by omega)]
   cases b with
   | true =>
    simp only [if_true]
    exact Twin.now ⟨rfl, fun h => absurd h (by decide)⟩
   | false =>
    simp only [Bool.false_eq_true, if_false]
    have good := hb2 rfl
    have fin : (0 < i → (rd_T91 p.f3 ((i : Int) - 1)).f0 < (rd_T91 p.f3 i).f0) → Twin (fun k => telemetry_checkDots.l0 k (lo p) (hi p) p.f3 (p.f3.length : Int) ((i : Int) + 1) p.f0 p.f1 p.f2 p.f3 p.f4) (fun k => perigeeref7_checkPoints.l0 k p.f3 (p.f3.length : Int) ((i : Int) + 1) p.f0 p.f1 p.f2 p.f3 p.f4) (fun a b => b = (if a = 0 then s else a) ∧ (a = 0 → Dots p i)) := by
     intro hlt
     refine Twin.mono next fun a b ⟨h1, h2⟩ => ⟨h1, fun ha j h3 h4 => ?_⟩
     rcases Nat.lt_or_ge i j with h5 | h5
     ·exact h2 ha j h5 h4
     ·obtain rfl : j = i := by omega
      exact ⟨good.1, good.2, hlt⟩
    repeat' (first | (exfalso; omega) | (refine Twin.ifL (fun h_ => ?_) (fun h_ => ?_)) | (refine Twin.ifR (fun h_ => ?_) (fun h_ => ?_)))
    ·exact Twin.now ⟨rfl, fun h => absurd h (by decide)⟩
    ·exact fin (fun _ => by omega)
    ·exact fin (fun _ => by omega)
  repeat' (first | (exfalso; omega) | (refine Twin.ifL (fun h_ => ?_) (fun h_ => ?_)) | (refine Twin.ifR (fun h_ => ?_) (fun h_ => ?_)))
  ·exact add _ (by simp; omega) (by simp; omega)
  ·exact add _ (by simp; omega) (by simp)

theorem dots_ev (p : S44) (hb : 1 ≤ p.f1 ∧ p.f1 ≤ 24) (s : Int)
 (hs : Ev (fun k => if (p.f4.length : Int) > 50 then some 2 else perigeeref7_checkPoints.l1 k p.f4 (p.f4.length : Int) 0 p.f0 p.f1 p.f2 p.f3 p.f4) s) :
 Twin (fun k => telemetry_checkDots.f k p.f0 p.f1 p.f2 p.f3 p.f4) (fun k => perigeeref7_checkPoints.f k p.f0 p.f1 p.f2 p.f3 p.f4) (fun a b => b = (if a = 0 then s else a) ∧ (a = 0 → Dots p 0 ∧ p.f3.length ≤ 50 ∧ p.f3.length ≠ 1)) := by
 unfold telemetry_checkDots.f perigeeref7_checkPoints.f
 rw [span_ev p hb]
 simp only [Option.bind_some]
 repeat' (first | (exfalso; omega) | (refine Twin.ifL (fun h_ => ?_) (fun h_ => ?_)) | (refine Twin.ifR (fun h_ => ?_) (fun h_ => ?_)))
 ·exact Twin.now ⟨rfl, fun h => absurd h (by decide)⟩
 ·exact Twin.now ⟨rfl, fun h => absurd h (by decide)⟩
 ·exact Twin.mono (dots_loop p hb (by omega) s hs p.f3.length 0 (by omega)) fun a b ⟨h1, h2⟩ => ⟨h1, fun h => ⟨h2 h, by omega, by omega⟩⟩

theorem words_loop (p : S44) (hb : 1 ≤ p.f1 ∧ p.f1 ≤ 24) (hl : p.f4.length ≤ 50) (hn : ∀ z ∈ p.f4, OkS z.f1) : ∀ (d i : Nat), i + d = p.f4.length →
 Twin (fun k => telemetry_checkWords.l0 k (lo p) (hi p) p.f4 (p.f4.length : Int) i p.f0 p.f1 p.f2 p.f3 p.f4) (fun k => perigeeref7_checkPoints.l1 k p.f4 (p.f4.length : Int) i p.f0 p.f1 p.f2 p.f3 p.f4) (fun a b => a = b) := by
 intro d
 induction d with
 | zero =>
  intro i hij
  refine Twin.stepL (fun k => by rw [telemetry_checkWords.l0]) (Twin.stepR (fun k => by rw [perigeeref7_checkPoints.l1]) ?_)
  refine Twin.noL (by omega) (Twin.noR (by omega) ?_)
  exact Twin.now rfl
 | succ d ih =>
  intro i hij
  have next := ih (i + 1) (by omega)
  refine Twin.stepL (fun k => by rw [telemetry_checkWords.l0]) (Twin.stepR (fun k => by rw [perigeeref7_checkPoints.l1]) ?_)
  simp only [in_ev, isRaw_ev p hb, within_ev, Option.bind_some, decide_eq_true_eq]
  have h1 : ((i : Nat) : Int) < (p.f4.length : Int) := by omega
  simp only [if_pos h1, if_pos (show (0 : Int) ≤ (i : Int) by omega)]
  rw [w64 (x := (i : Int) - 1) (by omega) (by omega), w64 (x := (i : Int) + 1) (by omega) (by omega)]
  obtain ⟨b, e1, e2⟩ := word_ev (rd_T89 p.f4 i).f1 (hn _ (getD_mem (by simpa using h1)))
  refine Twin.ifL (fun h2 => Twin.yesR h2 ?_) (fun h2 => Twin.noR h2 (Twin.now rfl))
  refine Twin.bindL e1 (Twin.bindR e2 ?_)
  refine Twin.ifL (fun h3 => Twin.yesR h3 ?_) (fun h3 => Twin.noR h3 (Twin.now rfl))
  repeat' (first | (exfalso; omega) | (refine Twin.ifL (fun h_ => ?_) (fun h_ => ?_)) | (refine Twin.ifR (fun h_ => ?_) (fun h_ => ?_)))
  all_goals first | exact Twin.now rfl | exact next
theorem words_ev (p : S44) (hb : 1 ≤ p.f1 ∧ p.f1 ≤ 24) (hn : ∀ z ∈ p.f4, OkS z.f1) :
 ∃ s, Ev (fun k => telemetry_checkWords.f k p.f0 p.f1 p.f2 p.f3 p.f4) s ∧ Ev (fun k => if (p.f4.length : Int) > 50 then some 2 else perigeeref7_checkPoints.l1 k p.f4 (p.f4.length : Int) 0 p.f0 p.f1 p.f2 p.f3 p.f4) s ∧ (s = 0 → p.f4.length ≤ 50) := by
 have : Twin (fun k => telemetry_checkWords.f k p.f0 p.f1 p.f2 p.f3 p.f4) (fun k => if (p.f4.length : Int) > 50 then some 2 else perigeeref7_checkPoints.l1 k p.f4 (p.f4.length : Int) 0 p.f0 p.f1 p.f2 p.f3 p.f4) (fun a b => a = b ∧ (a = 0 → p.f4.length ≤ 50)) := by
  unfold telemetry_checkWords.f
  rw [span_ev p hb]
  simp only [Option.bind_some]
  repeat' (first | (exfalso; omega) | (refine Twin.ifL (fun h_ => ?_) (fun h_ => ?_)) | (refine Twin.ifR (fun h_ => ?_) (fun h_ => ?_)))
  ·exact Twin.now ⟨rfl, fun h => absurd h (by decide)⟩
  ·exact Twin.mono (words_loop p hb (by omega) hn p.f4.length 0 (by omega)) fun a b h => ⟨h, fun _ => by omega⟩
 obtain ⟨a, b, h1, h2, rfl, h3⟩ := this
 exact ⟨a, h1, h2, h3⟩

theorem first_ev (a b : Int) : Ev (fun k => kit_First.f k [a, b]) (if a = 0 then b else a) := by
 unfold kit_First.f
 refine Ev.step (fun k => by rw [kit_First.l0]) ?_
 rw [show rd [a, b] 0 = a from rfl, show wrap64 (0 + 1) = 1 from w64 (by omega) (by omega), show (([a, b] : List Int).length : Int) = 2 from rfl]
 refine Ev.yes (by omega) (Ev.yes (by omega) (Ev.yes (by omega) (Ev.split (fun h => ?_) (fun h => ?_))))
 ·rw [if_pos h]
  refine Ev.step (fun k => by rw [kit_First.l0]) ?_
  rw [show rd [a, b] 1 = b from rfl, show wrap64 (1 + 1) = 2 from w64 (by omega) (by omega), show (([a, b] : List Int).length : Int) = 2 from rfl]
  refine Ev.yes (by omega) (Ev.yes (by omega) (Ev.yes (by omega) (Ev.split (fun h => ?_) (fun h => Ev.now _))))
  refine Ev.step (fun k => by rw [kit_First.l0]) (Ev.no (by omega) ?_)
  rw [h]
  exact Ev.now _
 ·rw [if_neg h]
  exact Ev.now _

def Fit (p : S44) : Prop := (1 ≤ p.f1 ∧ p.f1 ≤ 24) ∧ Dots p 0 ∧ p.f3.length ≤ 50 ∧ p.f3.length ≠ 1 ∧ p.f4.length ≤ 50
def Fits (l : List S44) (i : Nat) : Prop := ∀ j : Nat, i ≤ j → j < l.length → Fit (rd_T44 l j) ∧ (0 < j → Op.bytesLess (rd_T44 l ((j : Int) - 1)).f0.toList (rd_T44 l j).f0.toList = true)
theorem params_loop (l : List S44) (hl : l.length ≤ 500) (hn : ∀ z ∈ l, ok44 z) : ∀ (d i : Nat), i + d = l.length →
 Twin (fun k => telemetry_CheckParameters.l0 k l l (l.length : Int) i) (fun k => perigeeref7_CheckParameters.l0 k l l (l.length : Int) i) (fun a b => a = b ∧ (a = 0 → Fits l i)) := by
 intro d
 induction d with
 | zero =>
  intro i hij
  refine Twin.stepL (fun k => by rw [telemetry_CheckParameters.l0]) (Twin.stepR (fun k => by rw [perigeeref7_CheckParameters.l0]) ?_)
  refine Twin.noL (by omega) (Twin.noR (by omega) ?_)
  exact Twin.now ⟨rfl, fun _ j h1 h2 => by omega⟩
 | succ d ih =>
  intro i hij
  have next := ih (i + 1) (by omega)
  refine Twin.stepL (fun k => by rw [telemetry_CheckParameters.l0]) (Twin.stepR (fun k => by rw [perigeeref7_CheckParameters.l0]) ?_)
  simp only [in_ev, within_ev, Option.bind_some, decide_eq_true_eq]
  have h1 : ((i : Nat) : Int) < (l.length : Int) := by omega
  have hp : ok44 (rd_T44 l i) := hn _ (getD_mem (by simpa using h1))
  simp only [if_pos h1, if_pos (show (0 : Int) ≤ (i : Int) by omega)]
  rw [w64 (x := (i : Int) - 1) (by omega) (by omega), w64 (x := (i : Int) + 1) (by omega) (by omega)]
  obtain ⟨b, e1, e2⟩ := word_ev (rd_T44 l i).f0 hp.1
  refine Twin.bindL e1 (Twin.bindR e2 ?_)
  refine Twin.ifL (fun h3 => Twin.yesR h3 ?_) (fun h3 => Twin.noR h3 (Twin.now ⟨rfl, fun h => absurd h (by decide)⟩))
  refine Twin.ifL (fun h4 => Twin.yesR h4 ?_) (fun h4 => Twin.noR h4 (Twin.now ⟨rfl, fun h => absurd h (by decide)⟩))
  obtain ⟨s, w1, w2, w3⟩ := words_ev (rd_T44 l i) h4 (fun z hz => (hp.2.2.2.2.2.2 z hz).2)
  obtain ⟨a, c, d1, d2, rfl, d3⟩ := dots_ev (rd_T44 l i) h4 s w2
  refine Twin.bindL d1 (Twin.bindL w1 (Twin.bindL (first_ev a s) (Twin.bindR d2 ?_)))
  refine Twin.ifL (fun h5 => Twin.yesR h5 ?_) (fun h5 => Twin.noR h5 (Twin.now ⟨rfl, fun h => absurd h h5⟩))
  have ha : a = 0 := by
   by_cases h : a = 0
   ·exact h
   ·rw [if_neg h] at h5; exact absurd h5 h
  rw [if_pos ha] at h5
  have fit : Fit (rd_T44 l i) := ⟨h4, (d3 ha).1, (d3 ha).2.1, (d3 ha).2.2, w3 h5⟩
  have fin : (0 < i → Op.bytesLess (rd_T44 l ((i : Int) - 1)).f0.toList (rd_T44 l i).f0.toList = true) → Twin (fun k => telemetry_CheckParameters.l0 k l l (l.length : Int) ((i : Int) + 1)) (fun k => perigeeref7_CheckParameters.l0 k l l (l.length : Int) ((i : Int) + 1)) (fun a b => a = b ∧ (a = 0 → Fits l i)) := by
   intro hlt
   refine Twin.mono next fun a b ⟨h1, h2⟩ => ⟨h1, fun ha j h3 h4 => ?_⟩
   rcases Nat.lt_or_ge i j with h5 | h5
   ·exact h2 ha j h5 h4
   ·obtain rfl : j = i := by omega
    exact ⟨fit, hlt⟩
  refine Twin.ifL (fun h6 => Twin.yesR h6 ?_) (fun h6 => Twin.noR h6 (fin fun h => absurd h (by omega)))
  refine Twin.yesL (by omega) (Twin.yesR (by omega) (Twin.yesL (by omega) (Twin.yesR (by omega) ?_)))
  refine Twin.ifL (fun h7 => Twin.yesR h7 (fin fun _ => h7)) (fun h7 => Twin.noR h7 (Twin.now ⟨rfl, fun h => absurd h (by decide)⟩))
theorem params_ev (l : List S44) (h : OkL 80 ok44 l) : ∃ c, Ev (fun k => telemetry_CheckParameters.f k l) c ∧ Ev (fun k => perigeeref7_CheckParameters.f k l) c ∧ (c = 0 → l.length ≤ 500 ∧ Fits l 0) := by
 have : Twin (fun k => telemetry_CheckParameters.f k l) (fun k => perigeeref7_CheckParameters.f k l) (fun a b => a = b ∧ (a = 0 → l.length ≤ 500 ∧ Fits l 0)) := by
  unfold telemetry_CheckParameters.f perigeeref7_CheckParameters.f
  repeat' (first | (exfalso; omega) | (refine Twin.ifL (fun h_ => ?_) (fun h_ => ?_)) | (refine Twin.ifR (fun h_ => ?_) (fun h_ => ?_)))
  ·exact Twin.now ⟨rfl, fun h => absurd h (by decide)⟩
  ·exact Twin.mono (params_loop l (by omega) h.2.2 l.length 0 (by omega)) fun a b ⟨h1, h2⟩ => ⟨h1, fun h => ⟨by omega, h2 h⟩⟩
 obtain ⟨a, b, h1, h2, rfl, h3⟩ := this
 exact ⟨a, h1, h2, h3⟩
end Go.Proofs.Ytcefbdknoelacaa.Pure

-- YtcefbdknoelacaaF25
namespace Go.Proofs.Ytcefbdknoelacaa.P
open Go.RowKit Go.Proofs.YtcefbdknoelacaaW.PrintWords Go.Proofs.YtcefbdknoelacaaW.PrintLast Go.Proofs.YtcefbdknoelacaaW.PrintMore
attribute [local go_sem] max2_int min2_int max_two min_two max_three min_three max_four min_four Go.Proofs.Ytcefbdknoelacaa.Strs.leqS Go.Proofs.Ytcefbdknoelacaa.Strs.gtrS Go.Proofs.Ytcefbdknoelacaa.Strs.geqS   -- for this text's walks alone
set_option linter.unusedVariables false
set_option linter.unusedSimpArgs false

def perigeeref7_find.l0 : Nat → ByteArray → List (S44) → Int → Int → Option (ByteArray × Int × Bool × (List (S91)) × (List (S89)) × Bool)
 | 0, _, _, _, _ => none
 | k + 1, x1, x8, x9, x10 => if x10 < x9 then (if 0 ≤ x10 then (if x10 < (x8.length : Int) then (if ((rd_T44 x8 x10).f0).toList = x1.toList then (some ((rd_T44 x8 x10).f0, (rd_T44 x8 x10).f1, (rd_T44 x8 x10).f2, (rd_T44 x8 x10).f3, (rd_T44 x8 x10).f4, true)) else (perigeeref7_find.l0 k x1 x8 x9 (wrap64 (x10 + 1)))) else (none)) else (none)) else (some ((⟨#[]⟩ : ByteArray), 0, false, ([] : List (S91)), ([] : List (S89)), false))
def perigeeref7_find.f (k : Nat) (l0 : List (S44)) (a1 : ByteArray) : Option (ByteArray × Int × Bool × (List (S91)) × (List (S89)) × Bool) := perigeeref7_find.l0 k a1 l0 (l0.length : Int) 0
end Go.Proofs.Ytcefbdknoelacaa.P

-- YtcefbdknoelacaaF26
namespace Go.Proofs.Ytcefbdknoelacaa.P
open Go.RowKit Go.Proofs.YtcefbdknoelacaaW.PrintWords Go.Proofs.YtcefbdknoelacaaW.PrintLast Go.Proofs.YtcefbdknoelacaaW.PrintMore
attribute [local go_sem] max2_int min2_int max_two min_two max_three min_three max_four min_four Go.Proofs.Ytcefbdknoelacaa.Strs.leqS Go.Proofs.Ytcefbdknoelacaa.Strs.gtrS Go.Proofs.Ytcefbdknoelacaa.Strs.geqS   -- for this text's walks alone
set_option linter.unusedVariables false
set_option linter.unusedSimpArgs false

def perigeeref7_gcd.l0 : Nat → Int → Int → Option (Int)
 | 0, _, _ => none
 | k + 1, x0, x1 => if x1 = 0 then (some (mx x0 (wrap64 (-x0)))) else (perigeeref7_gcd.l0 k x1 (Int.tmod x0 x1))
def perigeeref7_gcd.f (k : Nat) (a0 : Int) (a1 : Int) : Option (Int) := perigeeref7_gcd.l0 k a0 a1
end Go.Proofs.Ytcefbdknoelacaa.P

-- YtcefbdknoelacaaF27
namespace Go.Proofs.Ytcefbdknoelacaa.P
open Go.RowKit Go.Proofs.YtcefbdknoelacaaW.PrintWords Go.Proofs.YtcefbdknoelacaaW.PrintLast Go.Proofs.YtcefbdknoelacaaW.PrintMore
attribute [local go_sem] max2_int min2_int max_two min_two max_three min_three max_four min_four Go.Proofs.Ytcefbdknoelacaa.Strs.leqS Go.Proofs.Ytcefbdknoelacaa.Strs.gtrS Go.Proofs.Ytcefbdknoelacaa.Strs.geqS   -- for this text's walks alone
set_option linter.unusedVariables false
set_option linter.unusedSimpArgs false

def perigeeref7_share.f (k : Nat) (a0 : Int) (a1 : Int) : Option (Int × Int) := (perigeeref7_gcd.f k a0 a1).bind fun t195 => (if t195 = 0 then (none) else (some (wrap64 (Int.tdiv a0 t195), wrap64 (Int.tdiv a1 t195))))
end Go.Proofs.Ytcefbdknoelacaa.P

-- YtcefbdknoelacaaQ2
set_option linter.unusedVariables false
set_option linter.unusedSimpArgs false
namespace Go.Proofs.Ytcefbdknoelacaa.Pure
open Go.RowKit Go.Proofs.Ytcefbdknoelacaa.Open Go.Proofs.Ytcefbdknoelacaa.P Go.Proofs.YtcefbdknoelacaaW.PrintWords Go.Proofs.YtcefbdknoelacaaW.PrintLast Go.Proofs.YtcefbdknoelacaaW.PrintMore

abbrev nameOf (l : List S44) (j : Nat) : List UInt8 := (rd_T44 l j).f0.toList
theorem sorted {l : List S44} (h : Fits l 0) : ∀ (b a : Nat), a < b → b < l.length → Op.bytesLess (nameOf l a) (nameOf l b) = true := by
 intro b
 induction b with
 | zero => intro a h1; omega
 | succ b ih =>
  intro a h1 h2
  have h3 := (h (b + 1) (by omega) h2).2 (by omega)
  rw [show (((b + 1 : Nat) : Int) - 1) = (b : Int) by omega] at h3
  rcases Nat.lt_or_ge a b with h4 | h4
  ·exact less_trans (ih a h4 (by omega)) h3
  ·obtain rfl : a = b := by omega
   exact h3
structure Place (l : List S44) (t : List UInt8) (p : Nat) : Prop where
 le : p ≤ l.length
 low : ∀ j, j < p → Op.bytesLess (nameOf l j) t = true
 high : ∀ j, p ≤ j → j < l.length → ¬ Op.bytesLess (nameOf l j) t = true
theorem place_unique {l : List S44} {t : List UInt8} {p q : Nat} (h : Place l t p) (h' : Place l t q) : p = q := by
 rcases Nat.lt_trichotomy p q with h1 | h1 | h1
 ·exact absurd (h'.low p h1) (h.high p (Nat.le_refl _) (by have := h'.le; omega))
 ·exact h1
 ·exact absurd (h.low q h1) (h'.high q (Nat.le_refl _) (by have := h.le; omega))
theorem compare_ev (a b : ByteArray) : strings_Compare.f a b = some (if Op.bytesLess a.toList b.toList = true then -1 else if Op.bytesLess b.toList a.toList = true then 1 else 0) := by
 unfold strings_Compare.f
 split
 ·rfl
 ·split <;> rfl
theorem search_loop (l : List S44) (hl : l.length ≤ 500) (hf : Fits l 0) (t : ByteArray) : ∀ (d i j : Nat), j = i + d → j ≤ l.length → (∀ m, m < i → Op.bytesLess (nameOf l m) t.toList = true) → (∀ m, j ≤ m → m < l.length → ¬ Op.bytesLess (nameOf l m) t.toList = true) →
 ∃ p, Place l t.toList p ∧ Ev (fun k => api_Parameter_string.l0 k l t (l.length : Int) i j) ((p : Int), decide (p < l.length ∧ nameOf l p = t.toList)) := by
 intro d
 induction d using Nat.strongRecOn with
 | _ d ih =>
  intro i j hj hjl hlow hhigh
  rcases Nat.eq_zero_or_pos d with h0 | h0
  ·subst h0
   have hij : j = i := by omega
   subst hij
   refine ⟨j, ⟨hjl, hlow, hhigh⟩, ?_⟩
   refine Ev.step (fun k => by rw [api_Parameter_string.l0]) ?_
   refine Ev.no (by omega) ?_
   by_cases h1 : (j : Int) < (l.length : Int)
   ·refine Ev.yes h1 (Ev.yes (by omega) (Ev.yes h1 ?_))
    unfold telemetry_parameter_1.f
    rw [compare_ev]
    simp only [Option.bind_some]
    refine Ev.is ?_
    have h2 := hhigh j (Nat.le_refl _) (by omega)
    have h3 : ¬ Op.bytesLess (rd_T44 l (j : Int)).f0.toList t.toList = true := h2
    rw [if_neg h3]
    by_cases h4 : nameOf l j = t.toList
    ·have h5 : (rd_T44 l (j : Int)).f0.toList = t.toList := h4
     rw [h5, less_irrefl]
     simp [h4]
     omega
    ·have h5 : Op.bytesLess t.toList (rd_T44 l (j : Int)).f0.toList = true := less_tri h2 h4
     rw [h5]
     simp [h4]
   ·refine Ev.no h1 ?_
    rw [decide_eq_false (by omega)]
    exact Ev.now _
  ·have hm : ∃ m : Nat, wrap64 ((IntKind.u64.wrap (wrap64 ((i : Int) + (j : Int)))) / 2) = (m : Int) ∧ m = (i + j) / 2 := by
    refine ⟨(i + j) / 2, ?_, rfl⟩
    rw [w64 (x := (i : Int) + (j : Int)) (by omega) (by omega), IntWalk.u64_in _ ⟨by omega, by omega⟩, w64 (by omega) (by omega)]
    omega
   obtain ⟨m, hm, hm2⟩ := hm
   have hmi : i ≤ m ∧ m < j := by omega
   rcases Classical.em (Op.bytesLess (nameOf l m) t.toList = true) with h1 | h1
   ·obtain ⟨p, hp, hev⟩ := ih (j - (m + 1)) (by omega) (m + 1) j (by omega) hjl (fun a ha => by
     rcases Nat.lt_or_ge a m with h2 | h2
     ·exact less_trans (sorted hf m a h2 (by omega)) h1
     ·obtain rfl : a = m := by omega
      exact h1) hhigh
    refine ⟨p, hp, ?_⟩
    refine Ev.step (fun k => by rw [api_Parameter_string.l0]) ?_
    rw [hm, w64 (x := (m : Int) + 1) (by omega) (by omega)]
    refine Ev.yes (by omega) (Ev.yes (by omega) (Ev.yes (by omega) ?_))
    unfold telemetry_parameter_1.f
    rw [compare_ev]
    have h2 : Op.bytesLess (rd_T44 l (m : Int)).f0.toList t.toList = true := h1
    rw [if_pos h2]
    simp only [Option.bind_some]
    exact Ev.yes (by omega) hev
   ·obtain ⟨p, hp, hev⟩ := ih (m - i) (by omega) i m (by omega) (by omega) hlow (fun a ha hb => by
     rcases Nat.lt_or_ge m a with h2 | h2
     ·intro h3
      exact h1 (less_trans (sorted hf a m h2 hb) h3)
     ·obtain rfl : a = m := by omega
      exact h1)
    refine ⟨p, hp, ?_⟩
    refine Ev.step (fun k => by rw [api_Parameter_string.l0]) ?_
    rw [hm]
    refine Ev.yes (by omega) (Ev.yes (by omega) (Ev.yes (by omega) ?_))
    unfold telemetry_parameter_1.f
    rw [compare_ev]
    have h2 : ¬ Op.bytesLess (rd_T44 l (m : Int)).f0.toList t.toList = true := h1
    rw [if_neg h2]
    simp only [Option.bind_some]
    exact Ev.no (by split <;> omega) hev

def found (l : List S44) (t : ByteArray) (p : Nat) : ByteArray × Int × Bool × (List (S91)) × (List (S89)) × Bool :=
 if p < l.length ∧ nameOf l p = t.toList then ((rd_T44 l p).f0, (rd_T44 l p).f1, (rd_T44 l p).f2, (rd_T44 l p).f3, (rd_T44 l p).f4, true) else ((⟨#[]⟩ : ByteArray), 0, false, ([] : List (S91)), ([] : List (S89)), false)
theorem parameter_ev (l : List S44) (hl : l.length ≤ 500) (hf : Fits l 0) (t : ByteArray) : ∃ p, Place l t.toList p ∧ Ev (fun k => telemetry_parameter.f k l t) (found l t p) := by
 obtain ⟨p, hp, hev⟩ := search_loop l hl hf t l.length 0 l.length (by omega) (by omega) (fun m h => by omega) (fun m h h' => by omega)
 refine ⟨p, hp, ?_⟩
 unfold telemetry_parameter.f api_Parameter_string.f
 refine Ev.bind hev ?_
 unfold found
 by_cases h : p < l.length ∧ nameOf l p = t.toList
 ·rw [if_pos h]
  exact Ev.yes (by simpa using h) (Ev.yes (by omega) (Ev.yes (by have := h.1; omega) (Ev.now _)))
 ·rw [if_neg h]
  exact Ev.no (by simpa using h) (Ev.now _)
theorem find_ev (l : List S44) (hl : l.length ≤ 500) (hf : Fits l 0) (t : ByteArray) (p : Nat) (hp : Place l t.toList p) : Ev (fun k => perigeeref7_find.f k l t) (found l t p) := by
 unfold perigeeref7_find.f found
 by_cases h : p < l.length ∧ nameOf l p = t.toList
 ·rw [if_pos h]
  have loop : ∀ d i : Nat, i + d = p → Ev (fun k => perigeeref7_find.l0 k t l (l.length : Int) i) ((rd_T44 l p).f0, (rd_T44 l p).f1, (rd_T44 l p).f2, (rd_T44 l p).f3, (rd_T44 l p).f4, true) := by
   intro d
   induction d with
   | zero =>
    intro i hi
    obtain rfl : i = p := by omega
    refine Ev.step (fun k => by rw [perigeeref7_find.l0]) ?_
    exact Ev.yes (by omega) (Ev.yes (by omega) (Ev.yes (by omega) (Ev.yes h.2 (Ev.now _))))
   | succ d ih =>
    intro i hi
    refine Ev.step (fun k => by rw [perigeeref7_find.l0]) ?_
    rw [w64 (x := (i : Int) + 1) (by omega) (by omega)]
    exact Ev.yes (by omega) (Ev.yes (by omega) (Ev.yes (by omega) (Ev.no (less_ne (hp.low i (by omega))) (ih (i + 1) (by omega)))))
  exact loop p 0 (by omega)
 ·rw [if_neg h]
  have none : ∀ j, j < l.length → ¬ nameOf l j = t.toList := by
   intro j hj e
   rcases Nat.lt_trichotomy j p with h1 | h1 | h1
   ·exact less_ne (hp.low j h1) e
   ·subst h1
    exact h ⟨hj, e⟩
   ·have h2 := sorted hf j p h1 hj
    rw [e] at h2
    exact hp.high p (Nat.le_refl _) (by omega) h2
  have loop : ∀ d i : Nat, i + d = l.length → Ev (fun k => perigeeref7_find.l0 k t l (l.length : Int) i) ((⟨#[]⟩ : ByteArray), 0, false, ([] : List (S91)), ([] : List (S89)), false) := by
   intro d
   induction d with
   | zero =>
    intro i hi
    refine Ev.step (fun k => by rw [perigeeref7_find.l0]) ?_
    exact Ev.no (by omega) (Ev.now _)
   | succ d ih =>
    intro i hi
    refine Ev.step (fun k => by rw [perigeeref7_find.l0]) ?_
    rw [w64 (x := (i : Int) + 1) (by omega) (by omega)]
    exact Ev.yes (by omega) (Ev.yes (by omega) (Ev.yes (by omega) (Ev.no (none i (by omega)) (ih (i + 1) (by omega)))))
  exact loop l.length 0 (by omega)

theorem gcd_tmod (a b : Int) : Int.gcd b (Int.tmod a b) = Int.gcd a b := by
 show Nat.gcd b.natAbs (Int.tmod a b).natAbs = Nat.gcd a.natAbs b.natAbs
 rw [Int.natAbs_tmod, Nat.gcd_comm, ← Nat.gcd_rec, Nat.gcd_comm]
theorem tmod_lt (a b : Int) (h : b ≠ 0) : (Int.tmod a b).natAbs < b.natAbs := by
 rw [Int.natAbs_tmod]
 exact Nat.mod_lt _ (by omega)
theorem gcdT_ev : ∀ (n : Nat) (a b : Int), b.natAbs = n → 0 ≤ a → 0 ≤ b → Ev (fun k => kit_Gcd.f k a b) (Int.gcd a b : Int) := by
 intro n
 induction n using Nat.strongRecOn with
 | _ n ih =>
  intro a b hn ha hb
  unfold kit_Gcd.f at ih ⊢
  refine Ev.step (fun k => by rw [kit_Gcd.l0]) ?_
  by_cases h : b > 0
  ·refine Ev.yes h (Ev.no (by omega) ?_)
   have := ih (Int.tmod a b).natAbs (by have := tmod_lt a b (by omega); omega) b (Int.tmod a b) rfl hb (Int.tmod_nonneg _ ha)
   rw [gcd_tmod] at this
   exact this
  ·obtain rfl : b = 0 := by omega
   refine Ev.no (by omega) (Ev.is ?_)
   rw [Int.gcd_zero_right]
   omega
theorem gcdR_ev : ∀ (n : Nat) (a b : Int), b.natAbs = n → a.natAbs ≤ 9223372036854775807 → b.natAbs ≤ 9223372036854775807 → Ev (fun k => perigeeref7_gcd.f k a b) (Int.gcd a b : Int) := by
 intro n
 induction n using Nat.strongRecOn with
 | _ n ih =>
  intro a b hn ha hb
  unfold perigeeref7_gcd.f at ih ⊢
  refine Ev.step (fun k => by rw [perigeeref7_gcd.l0]) ?_
  by_cases h : b = 0
  ·subst h
   refine Ev.yes rfl (Ev.is ?_)
   rw [Int.gcd_zero_right, w64 (by omega) (by omega)]
   unfold mx
   split <;> omega
  ·refine Ev.no h ?_
   have h1 := tmod_lt a b h
   have := ih (Int.tmod a b).natAbs (by omega) b (Int.tmod a b) rfl hb (by omega)
   rw [gcd_tmod] at this
   exact this
def low (a b : Int) : Int × Int := (Int.tdiv a (Int.gcd a b), Int.tdiv b (Int.gcd a b))
theorem tdiv_bd (a b : Int) : (Int.tdiv a b).natAbs ≤ a.natAbs := by
 rw [Int.natAbs_tdiv]
 exact Nat.div_le_self _ _
theorem lowT_ev (a b : Int) (hb : 0 < b) (ha : a.natAbs ≤ 4611686018427387904) (hb' : b.natAbs ≤ 4611686018427387904) : Ev (fun k => kit_Lowest.f k a b) (low a b) := by
 have hg : (Int.gcd a b : Int) ≠ 0 := by
  have : Int.gcd a b ≠ 0 := fun h => by have := (Int.gcd_eq_zero_iff.1 h).2; omega
  omega
 have e : some (wrap64 (Int.tdiv a (Int.gcd a b)), wrap64 (Int.tdiv b (Int.gcd a b))) = some (low a b) := by
  have h1 := tdiv_bd a (Int.gcd a b)
  have h2 := tdiv_bd b (Int.gcd a b)
  rw [w64 (by omega) (by omega), w64 (by omega) (by omega)]
  rfl
 unfold kit_Lowest.f
 refine Ev.split (fun h => ?_) (fun h => ?_)
 ·rw [w64 (x := -a) (by omega) (by omega)]
  refine Ev.bind (gcdT_ev _ (-a) b rfl (by omega) (by omega)) ?_
  rw [Int.neg_gcd]
  exact Ev.no hg (Ev.some e)
 ·refine Ev.bind (gcdT_ev _ a b rfl (by omega) (by omega)) ?_
  exact Ev.no hg (Ev.some e)
theorem lowR_ev (a b : Int) (hb : 0 < b) (ha : a.natAbs ≤ 4611686018427387904) (hb' : b.natAbs ≤ 4611686018427387904) : Ev (fun k => perigeeref7_share.f k a b) (low a b) := by
 have hg : (Int.gcd a b : Int) ≠ 0 := by
  have : Int.gcd a b ≠ 0 := fun h => by have := (Int.gcd_eq_zero_iff.1 h).2; omega
  omega
 have e : some (wrap64 (Int.tdiv a (Int.gcd a b)), wrap64 (Int.tdiv b (Int.gcd a b))) = some (low a b) := by
  have h1 := tdiv_bd a (Int.gcd a b)
  have h2 := tdiv_bd b (Int.gcd a b)
  rw [w64 (by omega) (by omega), w64 (by omega) (by omega)]
  rfl
 unfold perigeeref7_share.f
 refine Ev.bind (gcdR_ev _ a b rfl (by omega) (by omega)) ?_
 exact Ev.no hg (Ev.some e)
theorem low_whole (v d : Int) (hd : 0 < d) : low (v * d) d = (v, 1) := by
 have : (Int.gcd (v * d) d : Int) = d := by
  rw [Int.gcd_mul_left_left]
  omega
 unfold low
 rw [this, Int.mul_tdiv_cancel _ (by omega), Int.tdiv_self (by omega)]

end Go.Proofs.Ytcefbdknoelacaa.Pure

-- YtcefbdknoelacaaF28
namespace Go.Proofs.Ytcefbdknoelacaa.P
open Go.RowKit Go.Proofs.YtcefbdknoelacaaW.PrintWords Go.Proofs.YtcefbdknoelacaaW.PrintLast Go.Proofs.YtcefbdknoelacaaW.PrintMore
attribute [local go_sem] max2_int min2_int max_two min_two max_three min_three max_four min_four Go.Proofs.Ytcefbdknoelacaa.Strs.leqS Go.Proofs.Ytcefbdknoelacaa.Strs.gtrS Go.Proofs.Ytcefbdknoelacaa.Strs.geqS   -- for this text's walks alone
set_option linter.unusedVariables false
set_option linter.unusedSimpArgs false

mutual
def perigeeref7_Value.l0 : Nat → Int → ByteArray → List (S89) → Int → Int → ByteArray → Int → Bool → List (S91) → List (S89) → Option (Int × Int × ByteArray × Int)
 | 0, _, _, _, _, _, _, _, _, _, _ => none
 | k + 1, x2, x12, x40, x41, x42, x209000, x209001, x209002, x209003, x209004 => if x42 < x41 then (if 0 ≤ x42 then (if x42 < (x40.length : Int) then (if ((rd_T89 x40 x42).f0) = x2 then (perigeeref7_Value.j1 k x2 ((rd_T89 x40 x42).f1) x40 x41 x42 x209000 x209001 x209002 x209003 x209004) else (perigeeref7_Value.j1 k x2 x12 x40 x41 x42 x209000 x209001 x209002 x209003 x209004)) else (none)) else (none)) else (if (x209003.length : Int) = 0 then (some (x2, 1, x12, 0)) else (perigeeref7_Value.l1 k x2 x12 1 x209000 x209001 x209002 x209003 x209004))
def perigeeref7_Value.j1 : Nat → Int → ByteArray → List (S89) → Int → Int → ByteArray → Int → Bool → List (S91) → List (S89) → Option (Int × Int × ByteArray × Int)
 | 0, _, _, _, _, _, _, _, _, _, _ => none
 | k + 1, x2, x12, x40, x41, x42, x209000, x209001, x209002, x209003, x209004 => perigeeref7_Value.l0 k x2 x12 x40 x41 (wrap64 (x42 + 1)) x209000 x209001 x209002 x209003 x209004
def perigeeref7_Value.j3 : Nat → Int → ByteArray → Int → ByteArray → Int → Bool → List (S91) → List (S89) → Option (Int × Int × ByteArray × Int)
 | 0, _, _, _, _, _, _, _, _ => none
 | k + 1, x2, x12, x15, x209000, x209001, x209002, x209003, x209004 => if 0 ≤ (wrap64 (x15 - 1)) then (if (wrap64 (x15 - 1)) < (x209003.length : Int) then (if 0 ≤ x15 then (if x15 < (x209003.length : Int) then ((perigeeref7_share.f k (wrap64 ((wrap64 (((rd_T91 x209003 (wrap64 (x15 - 1))).f1) * (wrap64 (((rd_T91 x209003 x15).f0) - ((rd_T91 x209003 (wrap64 (x15 - 1))).f0))))) + (wrap64 ((wrap64 (x2 - ((rd_T91 x209003 (wrap64 (x15 - 1))).f0))) * (wrap64 (((rd_T91 x209003 x15).f1) - ((rd_T91 x209003 (wrap64 (x15 - 1))).f1))))))) (wrap64 (((rd_T91 x209003 x15).f0) - ((rd_T91 x209003 (wrap64 (x15 - 1))).f0)))).bind fun bt217 => (some (bt217.1, bt217.2, x12, 0))) else (none)) else (none)) else (none)) else (none)
def perigeeref7_Value.l1 : Nat → Int → ByteArray → Int → ByteArray → Int → Bool → List (S91) → List (S89) → Option (Int × Int × ByteArray × Int)
 | 0, _, _, _, _, _, _, _, _ => none
 | k + 1, x2, x12, x15, x209000, x209001, x209002, x209003, x209004 => if x15 < (wrap64 ((x209003.length : Int) - 1)) then (if 0 ≤ x15 then (if x15 < (x209003.length : Int) then (if x2 > ((rd_T91 x209003 x15).f0) then (perigeeref7_Value.l1 k x2 x12 (wrap64 (x15 + 1)) x209000 x209001 x209002 x209003 x209004) else (perigeeref7_Value.j3 k x2 x12 x15 x209000 x209001 x209002 x209003 x209004)) else (none)) else (none)) else (perigeeref7_Value.j3 k x2 x12 x15 x209000 x209001 x209002 x209003 x209004)
end
def perigeeref7_Value.f (k : Nat) (l0 : List (S44)) (a1 : ByteArray) (a2 : Int) : Option (Int × Int × ByteArray × Int) := (perigeeref7_CheckParameters.f k l0).bind fun t197 => (if t197 = 0 then ((perigeeref7_find.f k l0 a1).bind fun bt198 => (if bt198.2.2.2.2.2 = true then ((perigeeref7_isRaw.f bt198.1 bt198.2.1 bt198.2.2.1 bt198.2.2.2.1 bt198.2.2.2.2.1 a2).bind fun t209 => (if t209 = true then (perigeeref7_Value.l0 k a2 (⟨#[]⟩ : ByteArray) bt198.2.2.2.2.1 (bt198.2.2.2.2.1.length : Int) 0 bt198.1 bt198.2.1 bt198.2.2.1 bt198.2.2.2.1 bt198.2.2.2.2.1) else (some (0, 0, (⟨#[]⟩ : ByteArray), 1)))) else (some (0, 0, (⟨#[]⟩ : ByteArray), 9)))) else (some (0, 0, (⟨#[]⟩ : ByteArray), t197)))
end Go.Proofs.Ytcefbdknoelacaa.P

-- YtcefbdknoelacaaQ3
set_option linter.unusedVariables false
set_option linter.unusedSimpArgs false
namespace Go.Proofs.Ytcefbdknoelacaa.Pure
open Go.RowKit Go.Proofs.Ytcefbdknoelacaa.Open Go.Proofs.Ytcefbdknoelacaa.P Go.Proofs.YtcefbdknoelacaaW.PrintWords Go.Proofs.YtcefbdknoelacaaW.PrintLast Go.Proofs.YtcefbdknoelacaaW.PrintMore

abbrev R (p : S44) (j : Nat) : Int := (rd_T91 p.f3 j).f0
abbrev V (p : S44) (j : Nat) : Int := (rd_T91 p.f3 j).f1
def num (p : S44) (x : Int) (j : Nat) : Int := V p j * (R p (j + 1) - R p j) + (x - R p j) * (V p (j + 1) - V p j)
def den (p : S44) (j : Nat) : Int := R p (j + 1) - R p j
def between (p : S44) (x : Int) (j : Nat) : Int × Int := low (num p x j) (den p j)
theorem R_bd {p : S44} (h : Fit p) (j : Nat) (hj : j < p.f3.length) : -16777216 ≤ R p j ∧ R p j ≤ 16777216 := by
 have h1 := (h.2.1 j (by omega) hj).1
 have h2 := span_bd p h.1
 have h3 : R p j = (rd_T91 p.f3 j).f0 := rfl
 omega
theorem V_bd {p : S44} (h : Fit p) (j : Nat) (hj : j < p.f3.length) : -1000000000 ≤ V p j ∧ V p j ≤ 1000000000 := (h.2.1 j (by omega) hj).2.1
theorem R_up {p : S44} (h : Fit p) (j : Nat) (hj : j + 1 < p.f3.length) : R p j < R p (j + 1) := by
 have h1 := (h.2.1 (j + 1) (by omega) hj).2.2 (by omega)
 rw [show (((j + 1 : Nat) : Int) - 1) = (j : Int) by omega] at h1
 exact h1
theorem prod_bd {p : S44} (h : Fit p) (x : Int) (hx : -16777216 ≤ x ∧ x ≤ 16777216) (j : Nat) (hj : j + 1 < p.f3.length) :
 (-33554432000000000 ≤ V p j * (R p (j + 1) - R p j) ∧ V p j * (R p (j + 1) - R p j) ≤ 33554432000000000) ∧ (-67108864000000000 ≤ (x - R p j) * (V p (j + 1) - V p j) ∧ (x - R p j) * (V p (j + 1) - V p j) ≤ 67108864000000000) := by
 have r0 := R_bd h j (by omega)
 have r1 := R_bd h (j + 1) hj
 have v0 := V_bd h j (by omega)
 have v1 := V_bd h (j + 1) hj
 have a := mul_bd (x := V p j) (y := R p (j + 1) - R p j) (A := 1000000000) (B := 33554432) (by omega) (by omega) (by omega) (by omega)
 have b := mul_bd (x := x - R p j) (y := V p (j + 1) - V p j) (A := 33554432) (B := 2000000000) (by omega) (by omega) (by omega) (by omega)
 omega
theorem num_ev {p : S44} (h : Fit p) (x : Int) (hx : -16777216 ≤ x ∧ x ≤ 16777216) (j : Nat) (hj : j + 1 < p.f3.length) (a b : Int) (ha : a = j) (hb : b = (j : Int) + 1) :
 (wrap64 ((wrap64 (((rd_T91 p.f3 a).f1) * (wrap64 (((rd_T91 p.f3 b).f0) - ((rd_T91 p.f3 a).f0))))) + (wrap64 ((wrap64 (x - ((rd_T91 p.f3 a).f0))) * (wrap64 (((rd_T91 p.f3 b).f1) - ((rd_T91 p.f3 a).f1))))))) = num p x j ∧ wrap64 (((rd_T91 p.f3 b).f0) - ((rd_T91 p.f3 a).f0)) = den p j ∧ 0 < den p j ∧ (num p x j).natAbs ≤ 4611686018427387904 ∧ (den p j).natAbs ≤ 4611686018427387904 := by
 subst ha
 have hb' : b = ((j + 1 : Nat) : Int) := by omega
 subst hb'
 have r0 := R_bd h j (by omega)
 have r1 := R_bd h (j + 1) hj
 have v0 := V_bd h j (by omega)
 have v1 := V_bd h (j + 1) hj
 have up := R_up h j hj
 have pb := prod_bd h x hx j hj
 unfold num den
 rw [w64 (x := R p (j + 1) - R p j) (by omega) (by omega), w64 (x := x - R p j) (by omega) (by omega), w64 (x := V p (j + 1) - V p j) (by omega) (by omega)]
 rw [w64 (x := V p j * (R p (j + 1) - R p j)) (by omega) (by omega), w64 (x := (x - R p j) * (V p (j + 1) - V p j)) (by omega) (by omega)]
 rw [w64 (by omega) (by omega)]
 exact ⟨rfl, rfl, by omega, by omega, by omega⟩

theorem at_left {p : S44} (h : Fit p) (j : Nat) (hj : j + 1 < p.f3.length) : between p (R p j) j = (V p j, 1) := by
 have up := R_up h j hj
 unfold between num den
 rw [Int.sub_self, Int.zero_mul, Int.add_zero]
 exact low_whole _ _ (by omega)
theorem at_right {p : S44} (h : Fit p) (j : Nat) (hj : j + 1 < p.f3.length) : between p (R p (j + 1)) j = (V p (j + 1), 1) := by
 have up := R_up h j hj
 unfold between num den
 rw [show V p j * (R p (j + 1) - R p j) + (R p (j + 1) - R p j) * (V p (j + 1) - V p j) = V p (j + 1) * (R p (j + 1) - R p j) by
  rw [Int.mul_comm (R p (j + 1) - R p j), ← Int.add_mul]
  congr 1
  omega]
 exact low_whole _ _ (by omega)

theorem tele_here {p : S44} (h : Fit p) (x : Int) (hx : -16777216 ≤ x ∧ x ≤ 16777216) (w : ByteArray) (j : Nat) (hj : j + 1 < p.f3.length) (ho : j + 2 < p.f3.length → x < R p (j + 1)) :
 Ev (fun k => telemetry_Value.l1 k x w j p.f0 p.f1 p.f2 p.f3 p.f4) ((between p x j).1, (between p x j).2, w, 0) := by
 have hl := h.2.2.1
 refine Ev.step (fun k => by rw [telemetry_Value.l1]) ?_
 rw [w64 (x := (j : Int) + 1) (by omega) (by omega), w64 (x := (j : Int) + 2) (by omega) (by omega)]
 have ok : Ev (fun k => telemetry_Value.j3 k x w j p.f0 p.f1 p.f2 p.f3 p.f4) ((between p x j).1, (between p x j).2, w, 0) := by
  refine Ev.step (fun k => by rw [telemetry_Value.j3]) ?_
  rw [w64 (x := (j : Int) + 1) (by omega) (by omega)]
  obtain ⟨e1, e2, e3, e4, e5⟩ := num_ev h x hx j hj (j : Int) ((j : Int) + 1) rfl rfl
  rw [e1, e2]
  exact Ev.yes (by omega) (Ev.yes (by omega) (Ev.yes (by omega) (Ev.yes (by omega) (Ev.bind (lowT_ev _ _ e3 e4 e5) (Ev.now _)))))
 refine Ev.split (fun h1 => ?_) (fun h1 => ok)
 have h2 := ho (by omega)
 refine Ev.yes (by omega) (Ev.yes (by omega) (Ev.no ?_ ok))
 intro h3
 have h4 : R p (j + 1) ≤ x := h3
 omega
theorem ref_here {p : S44} (h : Fit p) (x : Int) (hx : -16777216 ≤ x ∧ x ≤ 16777216) (w : ByteArray) (j : Nat) (hj : j + 1 < p.f3.length) (ho : j + 2 < p.f3.length → x ≤ R p (j + 1)) :
 Ev (fun k => perigeeref7_Value.l1 k x w ((j : Int) + 1) p.f0 p.f1 p.f2 p.f3 p.f4) ((between p x j).1, (between p x j).2, w, 0) := by
 have hl := h.2.2.1
 refine Ev.step (fun k => by rw [perigeeref7_Value.l1]) ?_
 rw [w64 (x := (p.f3.length : Int) - 1) (by omega) (by omega)]
 have ok : Ev (fun k => perigeeref7_Value.j3 k x w ((j : Int) + 1) p.f0 p.f1 p.f2 p.f3 p.f4) ((between p x j).1, (between p x j).2, w, 0) := by
  refine Ev.step (fun k => by rw [perigeeref7_Value.j3]) ?_
  rw [w64 (x := (j : Int) + 1 - 1) (by omega) (by omega), show (j : Int) + 1 - 1 = j by omega]
  obtain ⟨e1, e2, e3, e4, e5⟩ := num_ev h x hx j hj (j : Int) ((j : Int) + 1) rfl rfl
  rw [e1, e2]
  exact Ev.yes (by omega) (Ev.yes (by omega) (Ev.yes (by omega) (Ev.yes (by omega) (Ev.bind (lowR_ev _ _ e3 e4 e5) (Ev.now _)))))
 refine Ev.split (fun h1 => ?_) (fun h1 => ok)
 have h2 := ho (by omega)
 refine Ev.yes (by omega) (Ev.yes (by omega) (Ev.no ?_ ok))
 intro h3
 have h4 : x > R p (j + 1) := h3
 omega

theorem seg_ev {p : S44} (h : Fit p) (x : Int) (hx : -16777216 ≤ x ∧ x ≤ 16777216) (w : ByteArray) : ∀ (d j : Nat), j + 2 + d = p.f3.length →
 ∃ m, j ≤ m ∧ m + 1 < p.f3.length ∧ (j < m → R p m < x) ∧ (m + 2 < p.f3.length → x ≤ R p (m + 1)) ∧ Ev (fun k => telemetry_Value.l1 k x w j p.f0 p.f1 p.f2 p.f3 p.f4) ((between p x m).1, (between p x m).2, w, 0) ∧ Ev (fun k => perigeeref7_Value.l1 k x w ((j : Int) + 1) p.f0 p.f1 p.f2 p.f3 p.f4) ((between p x m).1, (between p x m).2, w, 0) := by
 have hl := h.2.2.1
 intro d
 induction d with
 | zero =>
  intro j hj
  exact ⟨j, by omega, by omega, fun h => by omega, fun h => by omega, tele_here h x hx w j (by omega) (fun h => by omega), ref_here h x hx w j (by omega) (fun h => by omega)⟩
 | succ d ih =>
  intro j hj
  have advT : ∀ r, R p (j + 1) ≤ x → Ev (fun k => telemetry_Value.l1 k x w ((j + 1 : Nat) : Int) p.f0 p.f1 p.f2 p.f3 p.f4) r → Ev (fun k => telemetry_Value.l1 k x w j p.f0 p.f1 p.f2 p.f3 p.f4) r := by
   intro r h1 h2
   refine Ev.step (fun k => by rw [telemetry_Value.l1]) ?_
   rw [w64 (x := (j : Int) + 1) (by omega) (by omega), w64 (x := (j : Int) + 2) (by omega) (by omega)]
   refine Ev.yes (by omega) (Ev.yes (by omega) (Ev.yes (by omega) (Ev.yes ?_ h2)))
   exact h1
  rcases Int.lt_trichotomy x (R p (j + 1)) with h1 | h1 | h1
  ·exact ⟨j, by omega, by omega, fun h => by omega, fun _ => by omega, tele_here h x hx w j (by omega) (fun _ => h1), ref_here h x hx w j (by omega) (fun _ => by omega)⟩
  ·refine ⟨j, by omega, by omega, fun h => by omega, fun _ => by omega, ?_, ref_here h x hx w j (by omega) (fun _ => by omega)⟩
   refine advT _ (by omega) ?_
   have e1 := at_right h j (by omega)
   have e2 := at_left h (j + 1) (by omega)
   rw [← h1] at e1 e2
   have := tele_here h x hx w (j + 1) (by omega) (fun h2 => by have := R_up h (j + 1) (by omega); omega)
   rw [e2] at this
   rw [e1]
   exact this
  ·obtain ⟨m, m1, m2, m3, m4, m5, m6⟩ := ih (j + 1) (by omega)
   refine ⟨m, by omega, m2, fun hm => ?_, m4, advT _ (by omega) m5, ?_⟩
   ·rcases Nat.lt_or_ge (j + 1) m with h2 | h2
    ·exact m3 h2
    ·obtain rfl : m = j + 1 := by omega
     exact h1
   ·refine Ev.step (fun k => by rw [perigeeref7_Value.l1]) ?_
    rw [w64 (x := (p.f3.length : Int) - 1) (by omega) (by omega), w64 (x := (j : Int) + 1 + 1) (by omega) (by omega)]
    refine Ev.yes (by omega) (Ev.yes (by omega) (Ev.yes (by omega) (Ev.yes ?_ m6)))
    exact h1

theorem mean_ev {p : S44} (h : Fit p) (x : Int) (hx : -16777216 ≤ x ∧ x ≤ 16777216) : ∀ (d i : Nat) (w : ByteArray), i + d = p.f4.length →
 ∃ w', (p.f3.length = 0 → Ev (fun k => telemetry_Value.l0 k x w p.f4 (p.f4.length : Int) i p.f0 p.f1 p.f2 p.f3 p.f4) (x, 1, w', 0) ∧ Ev (fun k => perigeeref7_Value.l0 k x w p.f4 (p.f4.length : Int) i p.f0 p.f1 p.f2 p.f3 p.f4) (x, 1, w', 0)) ∧
  (p.f3.length ≠ 0 → ∃ m, m + 1 < p.f3.length ∧ (0 < m → R p m < x) ∧ (m + 2 < p.f3.length → x ≤ R p (m + 1)) ∧ Ev (fun k => telemetry_Value.l0 k x w p.f4 (p.f4.length : Int) i p.f0 p.f1 p.f2 p.f3 p.f4) ((between p x m).1, (between p x m).2, w', 0) ∧ Ev (fun k => perigeeref7_Value.l0 k x w p.f4 (p.f4.length : Int) i p.f0 p.f1 p.f2 p.f3 p.f4) ((between p x m).1, (between p x m).2, w', 0)) := by
 have hl := h.2.2.1
 have h1 := h.2.2.2.1
 have h4 := h.2.2.2.2
 intro d
 induction d with
 | zero =>
  intro i w hi
  refine ⟨w, fun h0 => ⟨?_, ?_⟩, fun h0 => ?_⟩
  ·exact Ev.step (fun k => by rw [telemetry_Value.l0]) (Ev.no (by omega) (Ev.yes (by omega) (Ev.now _)))
  ·exact Ev.step (fun k => by rw [perigeeref7_Value.l0]) (Ev.no (by omega) (Ev.yes (by omega) (Ev.now _)))
  ·obtain ⟨m, _, m2, m3, m4, m5, m6⟩ := seg_ev h x hx w (p.f3.length - 2) 0 (by omega)
   refine ⟨m, m2, m3, m4, ?_, ?_⟩
   ·refine Ev.step (fun k => by rw [telemetry_Value.l0]) ?_
    exact Ev.no (by omega) (Ev.no (by omega) m5)
   ·refine Ev.step (fun k => by rw [perigeeref7_Value.l0]) ?_
    exact Ev.no (by omega) (Ev.no (by omega) m6)
 | succ d ih =>
  intro i w hi
  obtain ⟨w', a, b⟩ := ih (i + 1) (if (rd_T89 p.f4 i).f0 = x then (rd_T89 p.f4 i).f1 else w) (by omega)
  have sT : ∀ r, Ev (fun k => telemetry_Value.l0 k x (if (rd_T89 p.f4 i).f0 = x then (rd_T89 p.f4 i).f1 else w) p.f4 (p.f4.length : Int) ((i + 1 : Nat) : Int) p.f0 p.f1 p.f2 p.f3 p.f4) r → Ev (fun k => telemetry_Value.l0 k x w p.f4 (p.f4.length : Int) i p.f0 p.f1 p.f2 p.f3 p.f4) r := by
   intro r hr
   refine Ev.step (fun k => by rw [telemetry_Value.l0]) ?_
   refine Ev.yes (by omega) (Ev.yes (by omega) (Ev.yes (by omega) (Ev.split (fun h => ?_) (fun h => ?_))))
   ·refine Ev.step (fun k => by rw [telemetry_Value.j1]) ?_
    rw [w64 (x := (i : Int) + 1) (by omega) (by omega)]
    rw [if_pos h] at hr; exact hr
   ·refine Ev.step (fun k => by rw [telemetry_Value.j1]) ?_
    rw [w64 (x := (i : Int) + 1) (by omega) (by omega)]
    rw [if_neg h] at hr; exact hr
  have sR : ∀ r, Ev (fun k => perigeeref7_Value.l0 k x (if (rd_T89 p.f4 i).f0 = x then (rd_T89 p.f4 i).f1 else w) p.f4 (p.f4.length : Int) ((i + 1 : Nat) : Int) p.f0 p.f1 p.f2 p.f3 p.f4) r → Ev (fun k => perigeeref7_Value.l0 k x w p.f4 (p.f4.length : Int) i p.f0 p.f1 p.f2 p.f3 p.f4) r := by
   intro r hr
   refine Ev.step (fun k => by rw [perigeeref7_Value.l0]) ?_
   refine Ev.yes (by omega) (Ev.yes (by omega) (Ev.yes (by omega) (Ev.split (fun h => ?_) (fun h => ?_))))
   ·refine Ev.step (fun k => by rw [perigeeref7_Value.j1]) ?_
    rw [w64 (x := (i : Int) + 1) (by omega) (by omega)]
    rw [if_pos h] at hr; exact hr
   ·refine Ev.step (fun k => by rw [perigeeref7_Value.j1]) ?_
    rw [w64 (x := (i : Int) + 1) (by omega) (by omega)]
    rw [if_neg h] at hr; exact hr
  refine ⟨w', fun h0 => ⟨sT _ (a h0).1, sR _ (a h0).2⟩, fun h0 => ?_⟩
  obtain ⟨m, m2, m3, m4, m5, m6⟩ := b h0
  exact ⟨m, m2, m3, m4, sT _ m5, sR _ m6⟩

theorem value_ev (l : List S44) (h : OkL 80 ok44 l) (t : ByteArray) (x : Int) : ∃ a b w c, Ev (fun k => telemetry_Value.f k l t x) (a, b, w, c) ∧ Ev (fun k => perigeeref7_Value.f k l t x) (a, b, w, c) ∧ (c ≠ 0 → a = 0 ∧ b = 0) ∧
 (c = 0 → Ev (fun k => telemetry_CheckParameters.f k l) 0 ∧ ∃ p, l.length ≤ 500 ∧ Fits l 0 ∧ p < l.length ∧ nameOf l p = t.toList ∧ Place l t.toList p ∧ (lo (rd_T44 l p) ≤ x ∧ x ≤ hi (rd_T44 l p)) ∧ ((rd_T44 l p).f3.length = 0 → a = x ∧ b = 1) ∧
  ((rd_T44 l p).f3.length ≠ 0 → ∃ m, m + 1 < (rd_T44 l p).f3.length ∧ (0 < m → R (rd_T44 l p) m < x) ∧ (m + 2 < (rd_T44 l p).f3.length → x ≤ R (rd_T44 l p) (m + 1)) ∧ (a, b) = between (rd_T44 l p) x m)) := by
 obtain ⟨c, c1, c2, c3⟩ := params_ev l h
 unfold telemetry_Value.f perigeeref7_Value.f
 by_cases hc : c = 0
 ·subst hc
  obtain ⟨hl, hf⟩ := c3 rfl
  obtain ⟨p, hp, ep⟩ := parameter_ev l hl hf t
  have fp := find_ev l hl hf t p hp
  unfold found at ep fp
  by_cases hq : p < l.length ∧ nameOf l p = t.toList
  ·rw [if_pos hq] at ep fp
   have fit := (hf p (by omega) hq.1).1
   generalize hz : rd_T44 l (p : Int) = z at ep fp fit
   have sp := span_bd z fit.1
   by_cases hx : lo z ≤ x ∧ x ≤ hi z
   ·obtain ⟨w', a, b⟩ := mean_ev fit x (by omega) z.f4.length 0 ⟨#[]⟩ (by omega)
    have front : ∀ r, Ev (fun k => telemetry_Value.l0 k x ⟨#[]⟩ z.f4 (z.f4.length : Int) 0 z.f0 z.f1 z.f2 z.f3 z.f4) r ∧ Ev (fun k => perigeeref7_Value.l0 k x ⟨#[]⟩ z.f4 (z.f4.length : Int) 0 z.f0 z.f1 z.f2 z.f3 z.f4) r →
     Ev (fun k => (telemetry_CheckParameters.f k l).bind fun t144 => (if t144 = 0 then ((telemetry_parameter.f k l t).bind fun bt145 => (if bt145.2.2.2.2.2 = true then ((telemetry_span.f bt145.1 bt145.2.1 bt145.2.2.1 bt145.2.2.2.1 bt145.2.2.2.2.1).bind fun bt156 => ((kit_In.f x bt156.1 bt156.2).bind fun t158 => (if t158 = true then (telemetry_Value.l0 k x (⟨#[]⟩ : ByteArray) bt145.2.2.2.2.1 (bt145.2.2.2.2.1.length : Int) 0 bt145.1 bt145.2.1 bt145.2.2.1 bt145.2.2.2.1 bt145.2.2.2.2.1) else (some (0, 0, (⟨#[]⟩ : ByteArray), 1))))) else (some (0, 0, (⟨#[]⟩ : ByteArray), 9)))) else (some (0, 0, (⟨#[]⟩ : ByteArray), t144)))) r ∧
     Ev (fun k => (perigeeref7_CheckParameters.f k l).bind fun t203 => (if t203 = 0 then ((perigeeref7_find.f k l t).bind fun bt204 => (if bt204.2.2.2.2.2 = true then ((perigeeref7_isRaw.f bt204.1 bt204.2.1 bt204.2.2.1 bt204.2.2.2.1 bt204.2.2.2.2.1 x).bind fun t215 => (if t215 = true then (perigeeref7_Value.l0 k x (⟨#[]⟩ : ByteArray) bt204.2.2.2.2.1 (bt204.2.2.2.2.1.length : Int) 0 bt204.1 bt204.2.1 bt204.2.2.1 bt204.2.2.2.1 bt204.2.2.2.2.1) else (some (0, 0, (⟨#[]⟩ : ByteArray), 1)))) else (some (0, 0, (⟨#[]⟩ : ByteArray), 9)))) else (some (0, 0, (⟨#[]⟩ : ByteArray), t203)))) r := by
     intro r ⟨h1, h2⟩
     constructor
     ·refine Ev.bind c1 (Ev.yes rfl (Ev.bind ep (Ev.yes rfl ?_)))
      simp only [span_ev z fit.1, Option.bind_some, in_ev]
      exact Ev.yes (by simpa using hx) h1
     ·refine Ev.bind c2 (Ev.yes rfl (Ev.bind fp (Ev.yes rfl ?_)))
      simp only [isRaw_ev z fit.1, Option.bind_some]
      exact Ev.yes (by simpa using hx) h2
    by_cases h0 : z.f3.length = 0
    ·obtain ⟨f1, f2⟩ := front _ (a h0)
     refine ⟨_, _, _, _, f1, f2, fun h => absurd rfl h, fun _ => ⟨c1, p, hl, hf, hq.1, hq.2, hp, ?_⟩⟩
     rw [hz]
     exact ⟨hx, fun _ => ⟨rfl, rfl⟩, fun h => absurd h0 h⟩
    ·obtain ⟨m, m2, m3, m4, m5, m6⟩ := b h0
     obtain ⟨f1, f2⟩ := front _ ⟨m5, m6⟩
     refine ⟨_, _, _, _, f1, f2, fun h => absurd rfl h, fun _ => ⟨c1, p, hl, hf, hq.1, hq.2, hp, ?_⟩⟩
     rw [hz]
     exact ⟨hx, fun h => absurd h h0, fun _ => ⟨m, m2, m3, m4, rfl⟩⟩
   ·refine ⟨0, 0, ⟨#[]⟩, 1, ?_, ?_, fun _ => ⟨rfl, rfl⟩, fun h => absurd h (by decide)⟩
    ·refine Ev.bind c1 (Ev.yes rfl (Ev.bind ep (Ev.yes rfl ?_)))
     simp only [span_ev z fit.1, Option.bind_some, in_ev]
     exact Ev.no (by simpa using hx) (Ev.now _)
    ·refine Ev.bind c2 (Ev.yes rfl (Ev.bind fp (Ev.yes rfl ?_)))
     simp only [isRaw_ev z fit.1, Option.bind_some]
     exact Ev.no (by simpa using hx) (Ev.now _)
  ·rw [if_neg hq] at ep fp
   refine ⟨0, 0, ⟨#[]⟩, 9, ?_, ?_, fun _ => ⟨rfl, rfl⟩, fun h => absurd h (by decide)⟩
   ·exact Ev.bind c1 (Ev.yes rfl (Ev.bind ep (Ev.no (by simp) (Ev.now _))))
   ·exact Ev.bind c2 (Ev.yes rfl (Ev.bind fp (Ev.no (by simp) (Ev.now _))))
 ·exact ⟨0, 0, ⟨#[]⟩, c, Ev.bind c1 (Ev.no hc (Ev.now _)), Ev.bind c2 (Ev.no hc (Ev.now _)), fun _ => ⟨rfl, rfl⟩, fun h => absurd h hc⟩
end Go.Proofs.Ytcefbdknoelacaa.Pure

-- YtcefbdknoelacaaF40
namespace Go.Proofs.Ytcefbdknoelacaa.P
open Go.RowKit Go.Proofs.YtcefbdknoelacaaW.PrintWords Go.Proofs.YtcefbdknoelacaaW.PrintLast Go.Proofs.YtcefbdknoelacaaW.PrintMore
attribute [local go_sem] max2_int min2_int max_two min_two max_three min_three max_four min_four Go.Proofs.Ytcefbdknoelacaa.Strs.leqS Go.Proofs.Ytcefbdknoelacaa.Strs.gtrS Go.Proofs.Ytcefbdknoelacaa.Strs.geqS   -- for this text's walks alone
set_option linter.unusedVariables false
set_option linter.unusedSimpArgs false

def perigeeref7_direction.l0 : Nat → List (S91) → Bool → Bool → Int → Option (Int)
 | 0, _, _, _, _ => none
 | k + 1, x0, x3, x4, x5 => if x5 < (x0.length : Int) then (if x3 = true then (if 0 ≤ x5 then (if 0 ≤ (wrap64 (x5 - 1)) then (if (wrap64 (x5 - 1)) < (x0.length : Int) then (if x4 = true then (perigeeref7_direction.l0 k x0 (decide (((rd_T91 x0 x5).f1) > ((rd_T91 x0 (wrap64 (x5 - 1))).f1))) (decide (((rd_T91 x0 x5).f1) < ((rd_T91 x0 (wrap64 (x5 - 1))).f1))) (wrap64 (x5 + 1))) else (perigeeref7_direction.l0 k x0 (decide (((rd_T91 x0 x5).f1) > ((rd_T91 x0 (wrap64 (x5 - 1))).f1))) false (wrap64 (x5 + 1)))) else (none)) else (none)) else (none)) else (if x4 = true then (if 0 ≤ x5 then (if 0 ≤ (wrap64 (x5 - 1)) then (if (wrap64 (x5 - 1)) < (x0.length : Int) then (perigeeref7_direction.l0 k x0 false (decide (((rd_T91 x0 x5).f1) < ((rd_T91 x0 (wrap64 (x5 - 1))).f1))) (wrap64 (x5 + 1))) else (none)) else (none)) else (none)) else (perigeeref7_direction.l0 k x0 false false (wrap64 (x5 + 1))))) else (if x3 = true then (some 1) else (if x4 = true then (some (-1)) else (some 0)))
def perigeeref7_direction.f (k : Nat) (l0 : List (S91)) : Option (Int) := perigeeref7_direction.l0 k l0 (decide ((l0.length : Int) > 1)) (decide ((l0.length : Int) > 1)) 1
end Go.Proofs.Ytcefbdknoelacaa.P

-- YtcefbdknoelacaaF41
namespace Go.Proofs.Ytcefbdknoelacaa.P
open Go.RowKit Go.Proofs.YtcefbdknoelacaaW.PrintWords Go.Proofs.YtcefbdknoelacaaW.PrintLast Go.Proofs.YtcefbdknoelacaaW.PrintMore
attribute [local go_sem] max2_int min2_int max_two min_two max_three min_three max_four min_four Go.Proofs.Ytcefbdknoelacaa.Strs.leqS Go.Proofs.Ytcefbdknoelacaa.Strs.gtrS Go.Proofs.Ytcefbdknoelacaa.Strs.geqS   -- for this text's walks alone
set_option linter.unusedVariables false
set_option linter.unusedSimpArgs false

def perigeeref7_floorDiv.f (a0 : Int) (a1 : Int) : Option (Int) := if a1 = 0 then (none) else (if (Int.tmod a0 a1) < 0 then (some (wrap64 ((wrap64 (Int.tdiv a0 a1)) - 1))) else (some (wrap64 (Int.tdiv a0 a1))))
end Go.Proofs.Ytcefbdknoelacaa.P

-- YtcefbdknoelacaaF42
namespace Go.Proofs.Ytcefbdknoelacaa.P
open Go.RowKit Go.Proofs.YtcefbdknoelacaaW.PrintWords Go.Proofs.YtcefbdknoelacaaW.PrintLast Go.Proofs.YtcefbdknoelacaaW.PrintMore
attribute [local go_sem] max2_int min2_int max_two min_two max_three min_three max_four min_four Go.Proofs.Ytcefbdknoelacaa.Strs.leqS Go.Proofs.Ytcefbdknoelacaa.Strs.gtrS Go.Proofs.Ytcefbdknoelacaa.Strs.geqS   -- for this text's walks alone
set_option linter.unusedVariables false
set_option linter.unusedSimpArgs false

def perigeeref7_atLeast.l0 : Nat → Int → Int → Int → Int → Int → Int → Int → Option (Bool)
 | 0, _, _, _, _, _, _, _ => none
 | k + 1, x0, x1, x2, x3, x9, x10, x11 => if x11 ≥ 0 then (if 0 ≤ x11 then (if (Go.bits .and .i64 (shr .i64 x1 x11) 1) = 1 then (if x2 = 0 then (none) else (perigeeref7_atLeast.l0 k x0 x1 x2 x3 (wrap64 ((wrap64 (2 * x9)) + (wrap64 (Int.tdiv (wrap64 ((wrap64 (2 * x10)) + (wrap64 (2 * x0)))) x2)))) (Int.tmod (wrap64 ((wrap64 (2 * x10)) + (wrap64 (2 * x0)))) x2) (wrap64 (x11 - 1)))) else (if x2 = 0 then (none) else (perigeeref7_atLeast.l0 k x0 x1 x2 x3 (wrap64 ((wrap64 (2 * x9)) + (wrap64 (Int.tdiv (wrap64 (2 * x10)) x2)))) (Int.tmod (wrap64 (2 * x10)) x2) (wrap64 (x11 - 1))))) else (none)) else (if x9 > x3 then (some true) else (if x9 = x3 then (some (decide (x10 > 0))) else (some false)))
def perigeeref7_atLeast.f (k : Nat) (a0 : Int) (a1 : Int) (a2 : Int) (a3 : Int) : Option (Bool) := perigeeref7_atLeast.l0 k a0 a1 a2 a3 0 0 25
end Go.Proofs.Ytcefbdknoelacaa.P

-- YtcefbdknoelacaaF43
namespace Go.Proofs.Ytcefbdknoelacaa.P
open Go.RowKit Go.Proofs.YtcefbdknoelacaaW.PrintWords Go.Proofs.YtcefbdknoelacaaW.PrintLast Go.Proofs.YtcefbdknoelacaaW.PrintMore
attribute [local go_sem] max2_int min2_int max_two min_two max_three min_three max_four min_four Go.Proofs.Ytcefbdknoelacaa.Strs.leqS Go.Proofs.Ytcefbdknoelacaa.Strs.gtrS Go.Proofs.Ytcefbdknoelacaa.Strs.geqS   -- for this text's walks alone
set_option linter.unusedVariables false
set_option linter.unusedSimpArgs false

def perigeeref7_nearest.l0 : Nat → Int → Int → Int → Int → Int → Option (Int)
 | 0, _, _, _, _, _ => none
 | k + 1, x0, x1, x2, x7, x8 => if x7 < x8 then ((perigeeref7_atLeast.f k x0 x1 x2 (wrap64 ((wrap64 (2 * (wrap64 (Int.tdiv (wrap64 ((wrap64 (x7 + x8)) + 1)) 2)))) - 1))).bind fun t321 => (if t321 = true then (perigeeref7_nearest.l0 k x0 x1 x2 (wrap64 (Int.tdiv (wrap64 ((wrap64 (x7 + x8)) + 1)) 2)) x8) else (perigeeref7_nearest.l0 k x0 x1 x2 x7 (wrap64 ((wrap64 (Int.tdiv (wrap64 ((wrap64 (x7 + x8)) + 1)) 2)) - 1))))) else (some x7)
def perigeeref7_nearest.f (k : Nat) (a0 : Int) (a1 : Int) (a2 : Int) : Option (Int) := perigeeref7_nearest.l0 k a0 a1 a2 0 a1
end Go.Proofs.Ytcefbdknoelacaa.P

-- YtcefbdknoelacaaF44
namespace Go.Proofs.Ytcefbdknoelacaa.P
open Go.RowKit Go.Proofs.YtcefbdknoelacaaW.PrintWords Go.Proofs.YtcefbdknoelacaaW.PrintLast Go.Proofs.YtcefbdknoelacaaW.PrintMore
attribute [local go_sem] max2_int min2_int max_two min_two max_three min_three max_four min_four Go.Proofs.Ytcefbdknoelacaa.Strs.leqS Go.Proofs.Ytcefbdknoelacaa.Strs.gtrS Go.Proofs.Ytcefbdknoelacaa.Strs.geqS   -- for this text's walks alone
set_option linter.unusedVariables false
set_option linter.unusedSimpArgs false

mutual
def perigeeref7_Raw.j0 : Nat → Bool → Int → Int → ByteArray → Int → Bool → List (S91) → List (S89) → Option (Int × Bool × Int)
 | 0, _, _, _, _, _, _, _, _ => none
 | k + 1, x50, x323000, x323001, x335000, x335001, x335002, x335003, x335004 => if x50 = true then (some (0, false, 3)) else (if x323001 > 100 then (perigeeref7_Raw.j1 k true x323000 x323001 x335000 x335001 x335002 x335003 x335004) else ((perigeeref7_within.f x323000 (wrap64 ((-1000000000) * x323001)) (wrap64 (1000000000 * x323001))).bind fun t336 => (perigeeref7_Raw.j1 k (!t336) x323000 x323001 x335000 x335001 x335002 x335003 x335004)))
def perigeeref7_Raw.j1 : Nat → Bool → Int → Int → ByteArray → Int → Bool → List (S91) → List (S89) → Option (Int × Bool × Int)
 | 0, _, _, _, _, _, _, _, _ => none
 | k + 1, x65, x323000, x323001, x335000, x335001, x335002, x335003, x335004 => if x65 = true then (some (0, false, 1)) else ((perigeeref7_direction.f k x335003).bind fun t337 => (if t337 = 0 then (some (0, false, 0)) else (perigeeref7_Raw.l0 k t337 1 x323000 x323001 x335000 x335001 x335002 x335003 x335004)))
def perigeeref7_Raw.j3 : Nat → Int → Int → Int → Int → ByteArray → Int → Bool → List (S91) → List (S89) → Option (Int × Bool × Int)
 | 0, _, _, _, _, _, _, _, _, _ => none
 | k + 1, x12, x13, x323000, x323001, x335000, x335001, x335002, x335003, x335004 => if 0 ≤ (wrap64 (x13 - 1)) then (if (wrap64 (x13 - 1)) < (x335003.length : Int) then (if 0 ≤ x13 then (if x13 < (x335003.length : Int) then ((perigeeref7_floorDiv.f (wrap64 (x12 * (wrap64 (x323000 - (wrap64 (((rd_T91 x335003 (wrap64 (x13 - 1))).f1) * x323001)))))) (wrap64 ((wrap64 (x12 * (wrap64 (((rd_T91 x335003 x13).f1) - ((rd_T91 x335003 (wrap64 (x13 - 1))).f1))))) * x323001))).bind fun t343 => ((perigeeref7_nearest.f k (wrap64 ((wrap64 (x12 * (wrap64 (x323000 - (wrap64 (((rd_T91 x335003 (wrap64 (x13 - 1))).f1) * x323001)))))) - (wrap64 (t343 * (wrap64 ((wrap64 (x12 * (wrap64 (((rd_T91 x335003 x13).f1) - ((rd_T91 x335003 (wrap64 (x13 - 1))).f1))))) * x323001)))))) (wrap64 (((rd_T91 x335003 x13).f0) - ((rd_T91 x335003 (wrap64 (x13 - 1))).f0))) (wrap64 ((wrap64 (x12 * (wrap64 (((rd_T91 x335003 x13).f1) - ((rd_T91 x335003 (wrap64 (x13 - 1))).f1))))) * x323001))).bind fun t344 => ((perigeeref7_ends.f x335000 x335001 x335002 x335003 x335004).bind fun bt345 => (some (mx bt345.1 (mn bt345.2 (wrap64 ((wrap64 (((rd_T91 x335003 (wrap64 (x13 - 1))).f0) + (wrap64 (t343 * (wrap64 (((rd_T91 x335003 x13).f0) - ((rd_T91 x335003 (wrap64 (x13 - 1))).f0))))))) + t344))), true, 0))))) else (none)) else (none)) else (none)) else (none)
def perigeeref7_Raw.l0 : Nat → Int → Int → Int → Int → ByteArray → Int → Bool → List (S91) → List (S89) → Option (Int × Bool × Int)
 | 0, _, _, _, _, _, _, _, _, _ => none
 | k + 1, x12, x13, x323000, x323001, x335000, x335001, x335002, x335003, x335004 => if x13 < (wrap64 ((x335003.length : Int) - 1)) then (if 0 ≤ x13 then (if x13 < (x335003.length : Int) then (if (wrap64 (x12 * x323000)) > (wrap64 ((wrap64 (x12 * ((rd_T91 x335003 x13).f1))) * x323001)) then (perigeeref7_Raw.l0 k x12 (wrap64 (x13 + 1)) x323000 x323001 x335000 x335001 x335002 x335003 x335004) else (perigeeref7_Raw.j3 k x12 x13 x323000 x323001 x335000 x335001 x335002 x335003 x335004)) else (none)) else (none)) else (perigeeref7_Raw.j3 k x12 x13 x323000 x323001 x335000 x335001 x335002 x335003 x335004)
end
def perigeeref7_Raw.f (k : Nat) (l0 : List (S44)) (a1 : ByteArray) (a2_0 : Int) (a2_1 : Int) : Option (Int × Bool × Int) := (perigeeref7_CheckParameters.f k l0).bind fun t323 => (if t323 = 0 then ((perigeeref7_find.f k l0 a1).bind fun bt324 => (if bt324.2.2.2.2.2 = true then (if a2_1 ≤ 0 then (perigeeref7_Raw.j0 k true a2_0 a2_1 bt324.1 bt324.2.1 bt324.2.2.1 bt324.2.2.2.1 bt324.2.2.2.2.1) else (if a2_1 = 0 then (none) else ((perigeeref7_gcd.f k (Int.tmod a2_0 a2_1) a2_1).bind fun t335 => (perigeeref7_Raw.j0 k (t335 != 1) a2_0 a2_1 bt324.1 bt324.2.1 bt324.2.2.1 bt324.2.2.2.1 bt324.2.2.2.2.1)))) else (some (0, false, 9)))) else (some (0, false, t323)))
end Go.Proofs.Ytcefbdknoelacaa.P

-- YtcefbdknoelacaaQ4
set_option linter.unusedVariables false
set_option linter.unusedSimpArgs false
namespace Go.Proofs.Ytcefbdknoelacaa.Pure
open Go.RowKit Go.Proofs.Ytcefbdknoelacaa.Open Go.Proofs.Ytcefbdknoelacaa.P Go.Proofs.YtcefbdknoelacaaW.PrintWords Go.Proofs.YtcefbdknoelacaaW.PrintLast Go.Proofs.YtcefbdknoelacaaW.PrintMore

abbrev PV (P : List S91) (j : Nat) : Int := (rd_T91 P j).f1
def Dir (P : List S91) (s : Int) : Prop := (s = 1 ∨ s = -1) ∧ 2 ≤ P.length ∧ ∀ j : Nat, j + 1 < P.length → s * PV P j < s * PV P (j + 1)
def DirRes (P : List S91) (a b : Int) : Prop := a = b ∧ (a ≠ 0 → Dir P a)
theorem side_loop (P : List S91) (hl : P.length ≤ 50) (h2 : 2 ≤ P.length) : ∀ (d i : Nat) (up dn : Bool), 1 ≤ i → i + d = P.length → (up = true → ∀ j : Nat, j + 1 < i → PV P j < PV P (j + 1)) → (dn = true → ∀ j : Nat, j + 1 < i → PV P (j + 1) < PV P j) →
 Twin (fun k => telemetry_side.l0 k P up dn i) (fun k => perigeeref7_direction.l0 k P up dn i) (DirRes P) := by
 intro d
 induction d with
 | zero =>
  intro i up dn hi hij hu hd
  refine Twin.stepL (fun k => by rw [telemetry_side.l0]) (Twin.stepR (fun k => by rw [perigeeref7_direction.l0]) ?_)
  refine Twin.noL (by omega) (Twin.noL (by omega) (Twin.noR (by omega) ?_))
  cases up with
  | true =>
   refine Twin.yesL rfl (Twin.yesR rfl (Twin.now ⟨rfl, fun _ => ⟨.inl rfl, h2, fun j hj => ?_⟩⟩))
   have := hu rfl j (by omega)
   omega
  | false =>
   refine Twin.noL (by simp) (Twin.noR (by simp) ?_)
   cases dn with
   | true =>
    refine Twin.yesL rfl (Twin.yesR rfl (Twin.now ⟨rfl, fun _ => ⟨.inr rfl, h2, fun j hj => ?_⟩⟩))
    have := hd rfl j (by omega)
    omega
   | false => exact Twin.noL (by simp) (Twin.noR (by simp) (Twin.now ⟨rfl, fun h => absurd rfl h⟩))
 | succ d ih =>
  intro i up dn hi hij hu hd
  refine Twin.stepL (fun k => by rw [telemetry_side.l0]) (Twin.stepR (fun k => by rw [perigeeref7_direction.l0]) ?_)
  obtain ⟨m, rfl⟩ : ∃ m, i = m + 1 := ⟨i - 1, by omega⟩
  rw [w64 (x := ((m + 1 : Nat) : Int) + 1) (by omega) (by omega), w64 (x := ((m + 1 : Nat) : Int) - 1) (by omega) (by omega), show ((m + 1 : Nat) : Int) - 1 = (m : Int) by omega]
  have next := fun up dn => ih (m + 1 + 1) up dn (by omega) (by omega)
  rw [show (((m + 1 + 1 : Nat)) : Int) = ((m + 1 : Nat) : Int) + 1 by omega] at next
  have hu' : up = true → decide ((rd_T91 P ((m + 1 : Nat) : Int)).f1 > (rd_T91 P (m : Int)).f1) = true → ∀ j : Nat, j + 1 < m + 1 + 1 → PV P j < PV P (j + 1) := by
   intro h h' j hj
   rcases Nat.lt_or_ge (j + 1) (m + 1) with h3 | h3
   ·exact hu h j h3
   ·obtain rfl : j = m := by omega
    exact of_decide_eq_true h'
  have hd' : dn = true → decide ((rd_T91 P ((m + 1 : Nat) : Int)).f1 < (rd_T91 P (m : Int)).f1) = true → ∀ j : Nat, j + 1 < m + 1 + 1 → PV P (j + 1) < PV P j := by
   intro h h' j hj
   rcases Nat.lt_or_ge (j + 1) (m + 1) with h3 | h3
   ·exact hd h j h3
   ·obtain rfl : j = m := by omega
    exact of_decide_eq_true h'
  refine Twin.yesL (by omega) (Twin.yesR (by omega) ?_)
  cases up with
  | true =>
   refine Twin.yesL rfl (Twin.yesR rfl (Twin.yesL (by omega) (Twin.yesR (by omega) (Twin.yesL (by omega) (Twin.yesR (by omega) (Twin.yesL (by omega) (Twin.yesR (by omega) ?_)))))))
   cases dn with
   | true => exact Twin.yesL rfl (Twin.yesR rfl (next _ _ (hu' rfl) (hd' rfl)))
   | false => exact Twin.noL (by simp) (Twin.noR (by simp) (next _ _ (hu' rfl) (fun h => absurd h (by simp))))
  | false =>
   refine Twin.noL (by simp) (Twin.noR (by simp) ?_)
   cases dn with
   | true => exact Twin.yesL rfl (Twin.yesR rfl (Twin.yesL (by omega) (Twin.yesR (by omega) (Twin.yesL (by omega) (Twin.yesR (by omega) (Twin.yesL (by omega) (Twin.yesR (by omega) (next _ _ (fun h => absurd h (by simp)) (hd' rfl)))))))))
   | false => exact Twin.noL (by simp) (Twin.noR (by simp) (next _ _ (fun h => absurd h (by simp)) (fun h => absurd h (by simp))))
theorem side_ev (P : List S91) (hl : P.length ≤ 50) : ∃ s, Ev (fun k => telemetry_side.f k P) s ∧ Ev (fun k => perigeeref7_direction.f k P) s ∧ (s ≠ 0 → Dir P s) := by
 have : Twin (fun k => telemetry_side.f k P) (fun k => perigeeref7_direction.f k P) (DirRes P) := by
  unfold telemetry_side.f perigeeref7_direction.f
  rcases Nat.lt_or_ge P.length 2 with h | h
  ·rw [decide_eq_false (by omega)]
   refine Twin.stepL (fun k => by rw [telemetry_side.l0]) (Twin.stepR (fun k => by rw [perigeeref7_direction.l0]) ?_)
   exact Twin.noL (by omega) (Twin.noR (by omega) (Twin.yesL (by omega) (Twin.noR (by simp) (Twin.noR (by simp) (Twin.now ⟨rfl, fun h => absurd rfl h⟩)))))
  ·rw [decide_eq_true (by omega)]
   exact side_loop P hl h (P.length - 1) 1 true true (by omega) (by omega) (fun _ j hj => by omega) (fun _ j hj => by omega)
 obtain ⟨a, b, h1, h2, rfl, h3⟩ := this
 exact ⟨a, h1, h2, h3⟩

theorem floor_tdiv (a b : Int) (hb : 0 < b) : (Int.tmod a b < 0 → Int.tdiv a b - 1 = a / b) ∧ (¬ Int.tmod a b < 0 → Int.tdiv a b = a / b) := by
 have h1 := Int.tmod_add_mul_tdiv a b
 have h2 : (Int.tmod a b).natAbs < b.natAbs := tmod_lt a b (by omega)
 constructor
 ·intro h
  have e : Int.tmod a b + b + b * (Int.tdiv a b - 1) = a := by rw [Int.mul_sub]; omega
  exact ((Int.ediv_emod_unique (r := Int.tmod a b + b) hb).2 ⟨e, by omega, by omega⟩).1.symm
 ·intro h
  exact ((Int.ediv_emod_unique hb).2 ⟨h1, by omega, by omega⟩).1.symm
theorem down_ev (a b : Int) (hb : 0 < b) (ha : a.natAbs ≤ 9223372036854775800) : kit_Down.f a b = some (a / b) := by
 have h1 := floor_tdiv a b hb
 have h2 := tdiv_bd a b
 unfold kit_Down.f
 rw [if_neg (by omega), w64 (x := Int.tdiv a b) (by omega) (by omega), w64 (x := Int.tdiv a b - 1) (by omega) (by omega)]
 by_cases h : Int.tmod a b < 0
 ·rw [if_pos h, h1.1 h]
 ·rw [if_neg h, h1.2 h]
theorem floorDiv_ev (a b : Int) (hb : 0 < b) (ha : a.natAbs ≤ 9223372036854775800) : perigeeref7_floorDiv.f a b = some (a / b) := by
 rw [← down_ev a b hb ha]; rfl
theorem ediv_bd (a b : Int) (hb : 0 < b) : (a / b).natAbs ≤ a.natAbs := by
 have h1 := floor_tdiv a b hb
 have h2 := tdiv_bd a b
 have h4 := Int.tmod_add_mul_tdiv a b
 by_cases h : Int.tmod a b < 0
 ·have h3 := h1.1 h
  have h5 := Int.mul_ediv_add_emod a b
  have h6 := Int.emod_nonneg a (show b ≠ 0 by omega)
  have h7 : a < 0 := by
   rcases Int.lt_or_le a 0 with h | h8
   ·exact h
   ·have := Int.tmod_nonneg b h8
    omega
  have h8 : -1 * -a ≤ a / b := by
   have : a / 1 ≤ a / b ∨ True := .inr trivial
   have e : a ≤ b * (a / b) + (b - 1) := by have := Int.emod_lt_of_pos a hb; omega
   rcases Int.lt_or_le (a / b) a with h9 | h9
   ·have : b * (a / b) ≤ 1 * (a / b) := Int.mul_le_mul_of_nonpos_right (by omega) (by omega)
    have : b * (a / b) ≤ b * (a - 1) := Int.mul_le_mul_of_nonneg_left (by omega) (by omega)
    have : b * (a - 1) ≤ b * (-1) + b * a := by rw [← Int.mul_add]; exact Int.mul_le_mul_of_nonneg_left (by omega) (by omega)
    have : b * a ≤ 1 * a := Int.mul_le_mul_of_nonpos_right (by omega) (by omega)
    omega
   ·omega
  have h9 : a / b ≤ 0 := by
   have : a / b < 0 := Int.ediv_neg_of_neg_of_pos h7 hb
   omega
  omega
 ·rw [← h1.2 h]; omega
theorem up_ev (a b : Int) (hb : 0 < b) (ha : a.natAbs ≤ 9223372036854775800) : kit_Up.f a b = some (-((-a) / b)) := by
 unfold kit_Up.f
 have h := ediv_bd (-a) b hb
 rw [w64 (x := -a) (by omega) (by omega), down_ev (-a) b hb (by omega)]
 simp only [Option.bind_some]
 rw [w64 (by omega) (by omega)]
def Near (n c r : Int) : Prop := c * (2 * r - 1) < 2 * n ∧ 2 * n ≤ c * (2 * r + 1)
theorem near_unique {n c r r' : Int} (hc : 0 < c) (h : Near n c r) (h' : Near n c r') : r = r' := by
 have one : ∀ {a b : Int}, Near n c a → Near n c b → ¬ a < b := by
  intro a b ha hb hab
  have h1 := ha.2
  have h2 := hb.1
  have : c * (2 * a + 1) ≤ c * (2 * b - 1) := Int.mul_le_mul_of_nonneg_left (by omega) (by omega)
  omega
 have a := one h h'
 have b := one h' h
 omega
theorem near_up (n c : Int) (hc : 0 < c) : Near n c (-((-(2 * n - c)) / (2 * c))) := by
 have h1 := Int.mul_ediv_add_emod (-(2 * n - c)) (2 * c)
 have h2 := Int.emod_nonneg (-(2 * n - c)) (show 2 * c ≠ 0 by omega)
 have h3 := Int.emod_lt_of_pos (-(2 * n - c)) (show 0 < 2 * c by omega)
 generalize (-(2 * n - c)) / (2 * c) = q at h1 ⊢
 generalize (-(2 * n - c)) % (2 * c) = m at h1 h2 h3
 unfold Near
 have e1 : c * (2 * -q - 1) = -(2 * c * q) - c := by
  rw [Int.mul_sub, Int.mul_one, show c * (2 * -q) = -(2 * c * q) by rw [Int.mul_neg, Int.mul_neg, Int.mul_comm c, Int.mul_assoc, Int.mul_comm q c, ← Int.mul_assoc]]
 have e2 : c * (2 * -q + 1) = -(2 * c * q) + c := by
  rw [Int.mul_add, Int.mul_one, show c * (2 * -q) = -(2 * c * q) by rw [Int.mul_neg, Int.mul_neg, Int.mul_comm c, Int.mul_assoc, Int.mul_comm q c, ← Int.mul_assoc]]
 rw [e1, e2]
 omega

theorem bit_ev (x : Nat) (i : Nat) (hx : x < 33554432) (hi : i ≤ 25) : Go.bits .and .i64 (shr .i64 (x : Int) (i : Int)) 1 = ((x / 2 ^ i % 2 : Nat) : Int) := by
 have e : shr .i64 (x : Int) (i : Int) = ((x / 2 ^ i : Nat) : Int) := by
  unfold shr
  rw [show min ((i : Int)).toNat (IntKind.bits .i64) = i by rw [show IntKind.bits .i64 = 64 from rfl, Int.toNat_natCast]; omega]
  rw [Int.natCast_ediv, Int.natCast_pow]
  rfl
 rw [e]
 exact Go.Proofs.and_one (x / 2 ^ i) (by have := Nat.div_le_self x (2 ^ i); omega)
theorem least_loop (a c t : Int) (D : Nat) (hD : D < 33554432) (ha : 0 ≤ a ∧ a < c) (hc : c ≤ 1000000000000) : ∀ (i : Nat) (q r : Int), i ≤ 26 → 0 ≤ r → r < c → 0 ≤ q → 2 * a * ((D / 2 ^ i : Nat) : Int) = q * c + r →
 Ev (fun k => perigeeref7_atLeast.l0 k a D c t q r ((i : Int) - 1)) (decide (t * c < 2 * a * (D : Int))) := by
 intro i
 induction i with
 | zero =>
  intro q r hi hr hr' hq e
  rw [Nat.pow_zero, Nat.div_one] at e
  rw [e]
  refine Ev.step (fun k => by rw [perigeeref7_atLeast.l0]) ?_
  refine Ev.no (by omega) ?_
  have lt : q > t → t * c < q * c + r := by
   intro h
   have : (t + 1) * c ≤ q * c := Int.mul_le_mul_of_nonneg_right (by omega) (by omega)
   rw [Int.add_mul, Int.one_mul] at this
   omega
  have ge : q < t → ¬ t * c < q * c + r := by
   intro h
   have : (q + 1) * c ≤ t * c := Int.mul_le_mul_of_nonneg_right (by omega) (by omega)
   rw [Int.add_mul, Int.one_mul] at this
   omega
  refine Ev.split (fun h => ?_) (fun h => Ev.split (fun h' => ?_) (fun h' => ?_))
  ·rw [decide_eq_true (lt h)]
   exact Ev.now _
  ·rw [h', show decide (t * c < t * c + r) = decide (r > 0) from decide_eq_decide.2 (by omega)]
   exact Ev.now _
  ·rw [decide_eq_false (ge (by omega))]
   exact Ev.now _
 | succ i ih =>
  intro q r hi hr hr' hq e
  have hDi : D / 2 ^ (i + 1) = D / 2 ^ i / 2 := by rw [Nat.pow_succ, Nat.div_div_eq_div_mul]
  have hle : D / 2 ^ i ≤ D := Nat.div_le_self _ _
  generalize hP : D / 2 ^ i = P at hDi hle
  rw [hDi] at e
  have hq2 : q ≤ 2 * 33554432 := by
   have h1 : 2 * a * ((P / 2 : Nat) : Int) ≤ (2 * c) * ((P / 2 : Nat) : Int) := Int.mul_le_mul_of_nonneg_right (by omega) (by omega)
   have h2 : (2 * c) * ((P / 2 : Nat) : Int) ≤ (2 * c) * 33554432 := Int.mul_le_mul_of_nonneg_left (by omega) (by omega)
   have h3 : q * c ≤ (2 * 33554432) * c := by omega
   exact Int.le_of_mul_le_mul_right h3 (by omega)
  refine Ev.step (fun k => by rw [perigeeref7_atLeast.l0]) ?_
  rw [show ((i + 1 : Nat) : Int) - 1 = (i : Int) by omega]
  have hb := bit_ev D i hD (by omega)
  rw [hP] at hb
  rw [hb, w64 (x := (i : Int) - 1) (by omega) (by omega), w64 (x := 2 * q) (by omega) (by omega), w64 (x := 2 * r) (by omega) (by omega), w64 (x := 2 * a) (by omega) (by omega), w64 (x := 2 * r + 2 * a) (by omega) (by omega)]
  have go : ∀ n : Int, 0 ≤ n → n < 4 * c → 2 * a * (P : Int) = (2 * q) * c + n → Ev (fun k => perigeeref7_atLeast.l0 k a D c t (wrap64 (2 * q + wrap64 (Int.tdiv n c))) (Int.tmod n c) ((i : Int) - 1)) (decide (t * c < 2 * a * (D : Int))) := by
   intro n h0 hn4 hn
   have e1 : Int.tdiv n c = n / c := Int.tdiv_eq_ediv_of_nonneg h0
   have e2 : Int.tmod n c = n % c := Int.tmod_eq_emod_of_nonneg h0
   have h1 := Int.mul_ediv_add_emod n c
   have h2 := Int.emod_nonneg n (show c ≠ 0 by omega)
   have h3 := Int.emod_lt_of_pos n (show 0 < c by omega)
   have h4 : 0 ≤ n / c := Int.ediv_nonneg h0 (by omega)
   have h5 : n / c < 4 := Int.ediv_lt_of_lt_mul (by omega) (by omega)
   rw [e1, e2, w64 (x := n / c) (by omega) (by omega), w64 (x := 2 * q + n / c) (by omega) (by omega)]
   refine ih _ _ (by omega) h2 h3 (by omega) ?_
   rw [hP, hn, Int.add_mul, Int.mul_comm (n / c) c]
   omega
  have hPe : (P : Int) = 2 * ((P / 2 : Nat) : Int) + ((P % 2 : Nat) : Int) := by omega
  have base : 2 * a * (P : Int) = (2 * q) * c + 2 * r + 2 * a * ((P % 2 : Nat) : Int) := by
   rw [hPe, Int.mul_add, ← Int.mul_assoc, Int.mul_comm (2 * a) 2, Int.mul_assoc, e, Int.mul_add, ← Int.mul_assoc]
  refine Ev.yes (by omega) (Ev.yes (by omega) (Ev.split (fun h => ?_) (fun h => ?_)))
  ·rw [h, Int.mul_one] at base
   exact Ev.no (by omega) (go _ (by omega) (by omega) (by omega))
  ·rw [show ((P % 2 : Nat) : Int) = 0 by omega, Int.mul_zero] at base
   exact Ev.no (by omega) (go _ (by omega) (by omega) (by omega))
theorem least_ev (a c t : Int) (D : Nat) (hD : D < 33554432) (ha : 0 ≤ a ∧ a < c) (hc : c ≤ 1000000000000) : Ev (fun k => perigeeref7_atLeast.f k a D c t) (decide (t * c < 2 * a * (D : Int))) := by
 unfold perigeeref7_atLeast.f
 refine least_loop a c t D hD ha hc 26 0 0 (by omega) (by omega) (by omega) (by omega) ?_
 rw [show D / 2 ^ 26 = 0 from Nat.div_eq_of_lt (by omega)]
 simp
theorem nearest_loop (a c : Int) (D : Nat) (hD : D < 33554432) (ha : 0 ≤ a ∧ a < c) (hc : c ≤ 1000000000000) : ∀ (d l h : Nat), h = l + d → h ≤ D → (0 < l → c * (2 * (l : Int) - 1) < 2 * a * (D : Int)) → (h < D → 2 * a * (D : Int) ≤ c * (2 * (h : Int) + 1)) →
 ∃ m : Nat, m ≤ D ∧ (0 < m → c * (2 * (m : Int) - 1) < 2 * a * (D : Int)) ∧ (m < D → 2 * a * (D : Int) ≤ c * (2 * (m : Int) + 1)) ∧ Ev (fun k => perigeeref7_nearest.l0 k a D c l h) (m : Int) := by
 intro d
 induction d using Nat.strongRecOn with
 | _ d ih =>
  intro l h hh hhD h1 h2
  rcases Nat.eq_zero_or_pos d with h0 | h0
  ·obtain rfl : h = l := by omega
   refine ⟨h, hhD, h1, h2, ?_⟩
   refine Ev.step (fun k => by rw [perigeeref7_nearest.l0]) ?_
   exact Ev.no (by omega) (Ev.now _)
  ·obtain ⟨m, hm⟩ : ∃ m : Nat, m = (l + h + 1) / 2 := ⟨_, rfl⟩
   have em : wrap64 (Int.tdiv (wrap64 ((wrap64 ((l : Int) + (h : Int))) + 1)) 2) = (m : Int) := by
    rw [w64 (x := (l : Int) + (h : Int)) (by omega) (by omega), w64 (x := (l : Int) + (h : Int) + 1) (by omega) (by omega), Int.tdiv_eq_ediv_of_nonneg (by omega), w64 (by omega) (by omega)]
    omega
   have lev := least_ev a c (2 * (m : Int) - 1) D hD ha hc
   rw [Int.mul_comm (2 * (m : Int) - 1) c] at lev
   by_cases ht : c * (2 * (m : Int) - 1) < 2 * a * (D : Int)
   ·obtain ⟨r, r1, r2, r3, r4⟩ := ih (h - m) (by omega) m h (by omega) hhD (fun _ => ht) h2
    refine ⟨r, r1, r2, r3, ?_⟩
    refine Ev.step (fun k => by rw [perigeeref7_nearest.l0]) ?_
    rw [em, w64 (x := 2 * (m : Int)) (by omega) (by omega), w64 (x := 2 * (m : Int) - 1) (by omega) (by omega)]
    refine Ev.yes (by omega) (Ev.bind lev (Ev.yes ?_ r4))
    exact decide_eq_true ht
   ·obtain ⟨r, r1, r2, r3, r4⟩ := ih (m - 1 - l) (by omega) l (m - 1) (by omega) (by omega) h1 (fun _ => by
     rw [show 2 * ((m - 1 : Nat) : Int) + 1 = 2 * (m : Int) - 1 by omega]
     omega)
    refine ⟨r, r1, r2, r3, ?_⟩
    refine Ev.step (fun k => by rw [perigeeref7_nearest.l0]) ?_
    rw [em, w64 (x := 2 * (m : Int)) (by omega) (by omega), w64 (x := 2 * (m : Int) - 1) (by omega) (by omega), w64 (x := (m : Int) - 1) (by omega) (by omega)]
    rw [show ((m - 1 : Nat) : Int) = (m : Int) - 1 by omega] at r4
    refine Ev.yes (by omega) (Ev.bind lev (Ev.no ?_ r4))
    simpa using ht
theorem nearest_ev (a c : Int) (D : Nat) (hD : D < 33554432) (hD0 : 0 < D) (ha : 0 ≤ a ∧ a < c) (hc : c ≤ 1000000000000) : ∃ r : Int, 0 ≤ r ∧ r ≤ D ∧ Near (a * (D : Int)) c r ∧ Ev (fun k => perigeeref7_nearest.f k a D c) r := by
 obtain ⟨m, h1, h2, h3, h4⟩ := nearest_loop a c D hD ha hc D 0 D (by omega) (by omega) (fun h => by omega) (fun h => by omega)
 refine ⟨m, by omega, by omega, ⟨?_, ?_⟩, h4⟩
 ·rw [← Int.mul_assoc]
  rcases Nat.eq_zero_or_pos m with h0 | h0
  ·subst h0
   have : 0 ≤ 2 * a * (D : Int) := Int.mul_nonneg (by omega) (by omega)
   rw [show c * (2 * ((0 : Nat) : Int) - 1) = -c by simp]
   omega
  ·exact h2 h0
 ·rw [← Int.mul_assoc]
  rcases Nat.lt_or_ge m D with h0 | h0
  ·exact h3 h0
  ·obtain rfl : m = D := by omega
   have : 2 * a * (m : Int) ≤ 2 * c * (m : Int) := Int.mul_le_mul_of_nonneg_right (by omega) (by omega)
   have e : c * (2 * (m : Int) + 1) = 2 * c * (m : Int) + c := by rw [Int.mul_add, Int.mul_one, ← Int.mul_assoc, Int.mul_comm c 2]
   rw [e]
   omega

def AA (p : S44) (s n d : Int) (m : Nat) : Int := s * (n - V p m * d)
def CC (p : S44) (s d : Int) (m : Nat) : Int := s * (V p (m + 1) - V p m) * d
def clamp (p : S44) (x : Int) : Int := mn (hi p) (mx (lo p) x)
theorem lo_hi (p : S44) (h : 1 ≤ p.f1 ∧ p.f1 ≤ 24) : lo p ≤ hi p ∧ hi p - lo p ≤ 16777215 := by
 have b1 := pow_bd (p.f1 - 1).toNat (by omega)
 have b2 := pow_bd p.f1.toNat (by omega)
 have e : 2 ^ p.f1.toNat = 2 * 2 ^ (p.f1 - 1).toNat := by
  rw [show p.f1.toNat = (p.f1 - 1).toNat + 1 by omega, Nat.pow_succ]; omega
 unfold lo hi
 split <;> omega
theorem clamp_ref (p : S44) (h : 1 ≤ p.f1 ∧ p.f1 ≤ 24) (x : Int) : mx (lo p) (mn (hi p) x) = clamp p x := by
 have := (lo_hi p h).1
 unfold clamp mx mn
 repeat' split
 all_goals omega
theorem clamp_in (p : S44) (x : Int) (h : lo p ≤ x ∧ x ≤ hi p) : clamp p x = x := by
 unfold clamp mx mn
 repeat' split
 all_goals omega
structure Ask (p : S44) (s n d : Int) : Prop where
 fit : Fit p
 dir : Dir p.f3 s
 d0 : 1 ≤ d
 d1 : d ≤ 100
 n0 : -1000000000 * d ≤ n
 n1 : n ≤ 1000000000 * d
theorem Ask.vd {p : S44} {s n d : Int} (h : Ask p s n d) (m : Nat) (hm : m < p.f3.length) : -100000000000 ≤ V p m * d ∧ V p m * d ≤ 100000000000 := by
 have v := V_bd h.fit m hm
 have := h.d0
 have := h.d1
 have a := mul_bd (x := V p m) (y := d) (A := 1000000000) (B := 100) (by omega) (by omega) (by omega) (by omega)
 omega
theorem sgn {s : Int} (h : s = 1 ∨ s = -1) (x : Int) : s * x = x ∨ s * x = -x := by
 rcases h with rfl | rfl <;> omega
theorem Ask.bd {p : S44} {s n d : Int} (h : Ask p s n d) (m : Nat) (hm : m + 1 < p.f3.length) :
 (-200000000000 ≤ AA p s n d m ∧ AA p s n d m ≤ 200000000000) ∧ (0 < CC p s d m ∧ CC p s d m ≤ 200000000000) ∧ (0 < den p m ∧ den p m ≤ 16777215) ∧ (-3400000000000000000 ≤ AA p s n d m * den p m ∧ AA p s n d m * den p m ≤ 3400000000000000000) := by
 have v0 := V_bd h.fit m (by omega)
 have v1 := V_bd h.fit (m + 1) hm
 have w0 := h.vd m (by omega)
 have d0 := h.d0
 have d1 := h.d1
 have n0 := h.n0
 have n1 := h.n1
 have up := R_up h.fit m hm
 have r0 := (h.fit.2.1 m (by omega) (by omega)).1
 have r1 := (h.fit.2.1 (m + 1) (by omega) hm).1
 have lh := (lo_hi p h.fit.1).2
 have hA : -200000000000 ≤ AA p s n d m ∧ AA p s n d m ≤ 200000000000 := by
  unfold AA
  rcases sgn h.dir.1 (n - V p m * d) with e | e <;> omega
 have hD : 0 < den p m ∧ den p m ≤ 16777215 := by
  have e1 : R p m = (rd_T91 p.f3 (m : Int)).f0 := rfl
  have e2 : R p (m + 1) = (rd_T91 p.f3 ((m + 1 : Nat) : Int)).f0 := rfl
  unfold den
  omega
 have hC : 0 < CC p s d m ∧ CC p s d m ≤ 200000000000 := by
  have inc := h.dir.2.2 m hm
  have e1 : PV p.f3 m = V p m := rfl
  have e2 : PV p.f3 (m + 1) = V p (m + 1) := rfl
  rw [e1, e2] at inc
  have pos : 0 < s * (V p (m + 1) - V p m) := by rw [Int.mul_sub]; omega
  have le : s * (V p (m + 1) - V p m) ≤ 2000000000 := by rcases sgn h.dir.1 (V p (m + 1) - V p m) with e | e <;> omega
  have a := mul_bd (x := s * (V p (m + 1) - V p m)) (y := d) (A := 2000000000) (B := 100) (by omega) (by omega) (by omega) (by omega)
  have b := Int.mul_pos pos (show 0 < d by omega)
  unfold CC
  omega
 have a := mul_bd (x := AA p s n d m) (y := den p m) (A := 200000000000) (B := 16777215) (by omega) (by omega) (by omega) (by omega)
 exact ⟨hA, hC, hD, by omega⟩
theorem Ask.words {p : S44} {s n d : Int} (h : Ask p s n d) (m : Nat) (hm : m + 1 < p.f3.length) (a b : Int) (ha : a = m) (hb : b = (m : Int) + 1) :
 wrap64 (s * (wrap64 (n - (wrap64 (((rd_T91 p.f3 a).f1) * d))))) = AA p s n d m ∧ wrap64 ((wrap64 (s * (wrap64 (((rd_T91 p.f3 b).f1) - ((rd_T91 p.f3 a).f1))))) * d) = CC p s d m ∧ wrap64 (((rd_T91 p.f3 b).f0) - ((rd_T91 p.f3 a).f0)) = den p m := by
 subst ha
 have hb' : b = ((m + 1 : Nat) : Int) := by omega
 subst hb'
 have bd := h.bd m hm
 have v0 := V_bd h.fit m (by omega)
 have v1 := V_bd h.fit (m + 1) hm
 have w0 := h.vd m (by omega)
 have d0 := h.d0
 have d1 := h.d1
 have n0 := h.n0
 have n1 := h.n1
 have e3 : den p m = (rd_T91 p.f3 ((m + 1 : Nat) : Int)).f0 - (rd_T91 p.f3 (m : Int)).f0 := rfl
 have le : -2000000000 ≤ s * (V p (m + 1) - V p m) ∧ s * (V p (m + 1) - V p m) ≤ 2000000000 := by rcases sgn h.dir.1 (V p (m + 1) - V p m) with e | e <;> omega
 rw [w64 (x := V p m * d) (by omega) (by omega), w64 (x := n - V p m * d) (by omega) (by omega), w64 (x := V p (m + 1) - V p m) (by omega) (by omega), w64 (x := s * (V p (m + 1) - V p m)) (by omega) (by omega)]
 rw [← e3, w64 (x := den p m) (by omega) (by omega)]
 have bA := bd.1
 have bC := bd.2.1
 unfold AA at bA
 unfold CC at bC
 rw [w64 (by omega) (by omega), w64 (by omega) (by omega)]
 exact ⟨rfl, rfl, rfl⟩
theorem tele_raw {p : S44} {s n d : Int} (h : Ask p s n d) (m : Nat) (hm : m + 1 < p.f3.length) :
 ∃ r, Near (AA p s n d m * den p m) (CC p s d m) r ∧ Ev (fun k => telemetry_Raw.j2 k s m n d p.f0 p.f1 p.f2 p.f3 p.f4) (clamp p (R p m + r), true, 0) := by
 have hl := h.fit.2.2.1
 have bd := h.bd m hm
 obtain ⟨e1, e2, e3⟩ := h.words m hm (m : Int) ((m : Int) + 1) rfl rfl
 have r0 := R_bd h.fit m (by omega)
 refine ⟨_, near_up (AA p s n d m * den p m) (CC p s d m) (by omega), ?_⟩
 refine Ev.step (fun k => by rw [telemetry_Raw.j2]) ?_
 rw [w64 (x := (m : Int) + 1) (by omega) (by omega), e1, e2, e3, w64 (x := AA p s n d m * den p m) (by omega) (by omega), w64 (x := 2 * (AA p s n d m * den p m)) (by omega) (by omega), w64 (x := 2 * CC p s d m) (by omega) (by omega), w64 (x := 2 * (AA p s n d m * den p m) - CC p s d m) (by omega) (by omega)]
 rw [span_ev p h.fit.1]
 simp only [Option.bind_some]
 have bq := ediv_bd (-(2 * (AA p s n d m * den p m) - CC p s d m)) (2 * CC p s d m) (by omega)
 rw [up_ev _ _ (by omega) (by omega)]
 simp only [Option.bind_some]
 have w : wrap64 ((rd_T91 p.f3 (m : Int)).f0 + -(-(2 * (AA p s n d m * den p m) - CC p s d m) / (2 * CC p s d m))) = R p m + -(-(2 * (AA p s n d m * den p m) - CC p s d m) / (2 * CC p s d m)) := w64 (by have e : R p m = (rd_T91 p.f3 (m : Int)).f0 := rfl; omega) (by have e : R p m = (rd_T91 p.f3 (m : Int)).f0 := rfl; omega)
 rw [w]
 exact Ev.yes (by omega) (Ev.yes (by omega) (Ev.yes (by omega) (Ev.yes (by omega) (Ev.now _))))
theorem ref_raw {p : S44} {s n d : Int} (h : Ask p s n d) (m : Nat) (hm : m + 1 < p.f3.length) :
 ∃ r, Near (AA p s n d m * den p m) (CC p s d m) r ∧ Ev (fun k => perigeeref7_Raw.j3 k s ((m : Int) + 1) n d p.f0 p.f1 p.f2 p.f3 p.f4) (clamp p (R p m + r), true, 0) := by
 have hl := h.fit.2.2.1
 have bd := h.bd m hm
 obtain ⟨e1, e2, e3⟩ := h.words m hm (m : Int) ((m : Int) + 1) rfl rfl
 have r0 := R_bd h.fit m (by omega)
 have eA := Int.mul_ediv_add_emod (AA p s n d m) (CC p s d m)
 have eA0 := Int.emod_nonneg (AA p s n d m) (show CC p s d m ≠ 0 by omega)
 have eA1 := Int.emod_lt_of_pos (AA p s n d m) (show 0 < CC p s d m by omega)
 have bw := ediv_bd (AA p s n d m) (CC p s d m) (by omega)
 obtain ⟨D, hD⟩ : ∃ D : Nat, den p m = (D : Int) := ⟨(den p m).toNat, by omega⟩
 obtain ⟨t, t0, t1, t2, t3⟩ := nearest_ev (AA p s n d m % CC p s d m) (CC p s d m) D (by omega) (by omega) ⟨eA0, eA1⟩ (by omega)
 have bwD := mul_bd (x := AA p s n d m / CC p s d m) (y := den p m) (A := 200000000000) (B := 16777215) (by omega) (by omega) (by omega) (by omega)
 refine ⟨AA p s n d m / CC p s d m * den p m + t, ?_, ?_⟩
 ·rw [← hD] at t2
  generalize AA p s n d m / CC p s d m = w at eA
  generalize AA p s n d m % CC p s d m = v at eA t2
  generalize CC p s d m = c at eA t2
  generalize den p m = D' at t2
  unfold Near at t2 ⊢
  have f1 : AA p s n d m * D' = c * (w * D') + v * D' := by rw [← eA, Int.add_mul, Int.mul_assoc]
  have f2 : c * (2 * (w * D' + t) - 1) = 2 * (c * (w * D')) + c * (2 * t - 1) := by
   rw [show 2 * (w * D' + t) - 1 = 2 * (w * D') + (2 * t - 1) by omega, Int.mul_add, show c * (2 * (w * D')) = 2 * (c * (w * D')) by rw [← Int.mul_assoc, Int.mul_comm c 2, Int.mul_assoc]]
  have f3 : c * (2 * (w * D' + t) + 1) = 2 * (c * (w * D')) + c * (2 * t + 1) := by
   rw [show 2 * (w * D' + t) + 1 = 2 * (w * D') + (2 * t + 1) by omega, Int.mul_add, show c * (2 * (w * D')) = 2 * (c * (w * D')) by rw [← Int.mul_assoc, Int.mul_comm c 2, Int.mul_assoc]]
  rw [f1, f2, f3]
  omega
 ·refine Ev.step (fun k => by rw [perigeeref7_Raw.j3]) ?_
  rw [w64 (x := (m : Int) + 1 - 1) (by omega) (by omega), show (m : Int) + 1 - 1 = m by omega, e1, e2, e3, floorDiv_ev _ _ (by omega) (by omega)]
  simp only [Option.bind_some]
  have bm : AA p s n d m / CC p s d m * CC p s d m = AA p s n d m - AA p s n d m % CC p s d m := by rw [Int.mul_comm]; omega
  rw [bm, w64 (x := AA p s n d m - AA p s n d m % CC p s d m) (by omega) (by omega), show AA p s n d m - (AA p s n d m - AA p s n d m % CC p s d m) = AA p s n d m % CC p s d m by omega, w64 (x := AA p s n d m % CC p s d m) (by omega) (by omega)]
  rw [hD] at bwD ⊢
  rw [ends_ev p h.fit.1]
  simp only [Option.bind_some]
  have w : wrap64 (wrap64 ((rd_T91 p.f3 (m : Int)).f0 + wrap64 (AA p s n d m / CC p s d m * (D : Int))) + t) = R p m + (AA p s n d m / CC p s d m * (D : Int) + t) := by
   rw [w64 (x := AA p s n d m / CC p s d m * (D : Int)) (by omega) (by omega), w64 (x := R p m + AA p s n d m / CC p s d m * (D : Int)) (by omega) (by omega), w64 (by omega) (by omega)]
   omega
  refine Ev.yes (by omega) (Ev.yes (by omega) (Ev.yes (by omega) (Ev.yes (by omega) (Ev.bind t3 (Ev.is ?_)))))
  rw [w, clamp_ref p h.fit.1]

def RawAt (p : S44) (s n d : Int) (m : Nat) (x : Int) : Prop := m + 1 < p.f3.length ∧ (0 < m → s * V p m * d < s * n) ∧ (m + 2 < p.f3.length → s * n ≤ s * V p (m + 1) * d) ∧ ∃ r, Near (AA p s n d m * den p m) (CC p s d m) r ∧ x = clamp p (R p m + r)
theorem Ask.cond {p : S44} {s n d : Int} (h : Ask p s n d) (m : Nat) (hm : m < p.f3.length) : wrap64 ((wrap64 (s * ((rd_T91 p.f3 (m : Int)).f1))) * d) = s * V p m * d ∧ wrap64 (s * n) = s * n := by
 have v0 := V_bd h.fit m (by omega)
 have w0 := h.vd m (by omega)
 have n0 := h.n0
 have n1 := h.n1
 have d1 := h.d1
 have d0 := h.d0
 have a1 : wrap64 (s * V p m) = s * V p m := by rcases sgn h.dir.1 (V p m) with e | e <;> exact w64 (by omega) (by omega)
 have a2 : wrap64 (s * n) = s * n := by rcases sgn h.dir.1 n with e | e <;> exact w64 (by omega) (by omega)
 refine ⟨?_, a2⟩
 rw [a1, Int.mul_assoc]
 rcases sgn h.dir.1 (V p m * d) with e | e <;> exact w64 (by omega) (by omega)
theorem raw_seg {p : S44} {s n d : Int} (h : Ask p s n d) : ∀ (e j : Nat), j + 2 + e = p.f3.length → (0 < j → s * V p j * d < s * n) →
 ∃ m x, RawAt p s n d m x ∧ Ev (fun k => telemetry_Raw.l0 k s j n d p.f0 p.f1 p.f2 p.f3 p.f4) (x, true, 0) ∧ Ev (fun k => perigeeref7_Raw.l0 k s ((j : Int) + 1) n d p.f0 p.f1 p.f2 p.f3 p.f4) (x, true, 0) := by
 have hl := h.fit.2.2.1
 intro e
 induction e with
 | zero =>
  intro j hj h0
  obtain ⟨r, a1, a2⟩ := tele_raw h j (by omega)
  obtain ⟨r', b1, b2⟩ := ref_raw h j (by omega)
  obtain rfl := near_unique (h.bd j (by omega)).2.1.1 a1 b1
  refine ⟨j, _, ⟨by omega, h0, fun h => by omega, r, a1, rfl⟩, ?_, ?_⟩
  ·refine Ev.step (fun k => by rw [telemetry_Raw.l0]) ?_
   rw [w64 (x := (j : Int) + 2) (by omega) (by omega)]
   exact Ev.no (by omega) a2
  ·refine Ev.step (fun k => by rw [perigeeref7_Raw.l0]) ?_
   rw [w64 (x := (p.f3.length : Int) - 1) (by omega) (by omega)]
   exact Ev.no (by omega) b2
 | succ e ih =>
  intro j hj h0
  obtain ⟨c1, c2⟩ := h.cond (j + 1) (by omega)
  rw [show ((j + 1 : Nat) : Int) = (j : Int) + 1 by omega] at c1
  have sT : ∀ r, s * V p (j + 1) * d ≤ s * n → Ev (fun k => telemetry_Raw.l0 k s ((j + 1 : Nat) : Int) n d p.f0 p.f1 p.f2 p.f3 p.f4) r → Ev (fun k => telemetry_Raw.l0 k s j n d p.f0 p.f1 p.f2 p.f3 p.f4) r := by
   intro r h1 h2
   refine Ev.step (fun k => by rw [telemetry_Raw.l0]) ?_
   rw [w64 (x := (j : Int) + 2) (by omega) (by omega), w64 (x := (j : Int) + 1) (by omega) (by omega), c1, c2]
   exact Ev.yes (by omega) (Ev.yes (by omega) (Ev.yes (by omega) (Ev.yes h1 h2)))
  have sR : s * n ≤ s * V p (j + 1) * d → ∀ r, Ev (fun k => perigeeref7_Raw.j3 k s ((j : Int) + 1) n d p.f0 p.f1 p.f2 p.f3 p.f4) r → Ev (fun k => perigeeref7_Raw.l0 k s ((j : Int) + 1) n d p.f0 p.f1 p.f2 p.f3 p.f4) r := by
   intro h1 r h2
   refine Ev.step (fun k => by rw [perigeeref7_Raw.l0]) ?_
   rw [w64 (x := (p.f3.length : Int) - 1) (by omega) (by omega), c1, c2]
   exact Ev.yes (by omega) (Ev.yes (by omega) (Ev.yes (by omega) (Ev.no (by omega) h2)))
  obtain ⟨r', b1, b2⟩ := ref_raw h j (by omega)
  rcases Int.lt_trichotomy (s * n) (s * V p (j + 1) * d) with h1 | h1 | h1
  ·obtain ⟨r, a1, a2⟩ := tele_raw h j (by omega)
   obtain rfl := near_unique (h.bd j (by omega)).2.1.1 a1 b1
   refine ⟨j, _, ⟨by omega, h0, fun _ => by omega, r, a1, rfl⟩, ?_, sR (by omega) _ b2⟩
   refine Ev.step (fun k => by rw [telemetry_Raw.l0]) ?_
   rw [w64 (x := (j : Int) + 2) (by omega) (by omega), w64 (x := (j : Int) + 1) (by omega) (by omega), c1, c2]
   exact Ev.yes (by omega) (Ev.yes (by omega) (Ev.yes (by omega) (Ev.no (by omega) a2)))
  ·refine ⟨j, _, ⟨by omega, h0, fun _ => by omega, r', b1, rfl⟩, sT _ (by omega) ?_, sR (by omega) _ b2⟩
   obtain ⟨r, a1, a2⟩ := tele_raw h (j + 1) (by omega)
   have z : AA p s n d (j + 1) = 0 := by unfold AA; rw [Int.mul_sub, ← Int.mul_assoc]; omega
   have bd1 := h.bd (j + 1) (by omega)
   have bd0 := h.bd j (by omega)
   have r0 : r = 0 := by
    refine near_unique bd1.2.1.1 a1 ?_
    rw [z, Int.zero_mul]
    unfold Near
    constructor <;> omega
   have aj : AA p s n d j = CC p s d j := by
    unfold AA CC
    rw [Int.mul_sub, h1, Int.mul_sub, Int.sub_mul, ← Int.mul_assoc]
   have rD : r' = den p j := by
    refine near_unique bd0.2.1.1 b1 ?_
    rw [aj]
    unfold Near
    have q1 : CC p s d j * (2 * den p j - 1) = 2 * (CC p s d j * den p j) - CC p s d j := by rw [Int.mul_sub, Int.mul_one, ← Int.mul_assoc, Int.mul_comm (CC p s d j) 2, Int.mul_assoc]
    have q2 : CC p s d j * (2 * den p j + 1) = 2 * (CC p s d j * den p j) + CC p s d j := by rw [Int.mul_add, Int.mul_one, ← Int.mul_assoc, Int.mul_comm (CC p s d j) 2, Int.mul_assoc]
    rw [q1, q2]
    omega
   have same : R p j + r' = R p (j + 1) + r := by rw [rD, r0]; unfold den; omega
   rw [same]
   refine Ev.step (fun k => by rw [telemetry_Raw.l0]) ?_
   rw [w64 (x := ((j + 1 : Nat) : Int) + 2) (by omega) (by omega), w64 (x := ((j + 1 : Nat) : Int) + 1) (by omega) (by omega)]
   refine Ev.split (fun h2 => ?_) (fun _ => a2)
   obtain ⟨c3, _⟩ := h.cond (j + 1 + 1) (by omega)
   rw [show ((j + 1 + 1 : Nat) : Int) = ((j + 1 : Nat) : Int) + 1 by omega] at c3
   rw [c3, c2]
   refine Ev.yes (by omega) (Ev.yes (by omega) (Ev.no ?_ a2))
   have cc := bd1.2.1.1
   unfold CC at cc
   rw [Int.mul_sub, Int.sub_mul] at cc
   omega
  ·obtain ⟨m, x, m1, m2, m3⟩ := ih (j + 1) (by omega) (fun _ => h1)
   refine ⟨m, x, m1, sT _ (by omega) m2, ?_⟩
   refine Ev.step (fun k => by rw [perigeeref7_Raw.l0]) ?_
   rw [w64 (x := (p.f3.length : Int) - 1) (by omega) (by omega), w64 (x := (j : Int) + 1 + 1) (by omega) (by omega), c1, c2]
   exact Ev.yes (by omega) (Ev.yes (by omega) (Ev.yes (by omega) (Ev.yes h1 m3)))

theorem lowest_ev (n d : Int) (hd : 0 < d) (hd' : d ≤ 9223372036854775807) : Ev (fun k => telemetry_lowest.f k n d) (decide (Int.gcd n d = 1)) := by
 have b := tmod_lt n d (by omega)
 have e : ∀ g : Int, g = (Int.gcd n d : Int) → (g == 1) = decide (Int.gcd n d = 1) := by
  intro g hg
  rw [hg]
  by_cases h : Int.gcd n d = 1
  ·rw [h]; rfl
  ·rw [decide_eq_false h]; simp; omega
 unfold telemetry_lowest.f
 refine Ev.no (by omega) (Ev.split (fun h => ?_) (fun h => ?_))
 ·rw [w64 (by omega) (by omega)]
  refine Ev.bind (gcdT_ev _ d _ rfl (by omega) (by omega)) (Ev.is (e _ ?_))
  rw [Int.gcd_neg, gcd_tmod]
 ·refine Ev.bind (gcdT_ev _ d _ rfl (by omega) (by omega)) (Ev.is (e _ ?_))
  rw [gcd_tmod]
theorem raw_ev (l : List S44) (h : OkL 80 ok44 l) (t : ByteArray) (n d : Int) (hd : d ≤ 9223372036854775807) : ∃ x f c, Ev (fun k => telemetry_Raw.f k l t n d) (x, f, c) ∧ Ev (fun k => perigeeref7_Raw.f k l t n d) (x, f, c) ∧
 (Ev (fun k => telemetry_CheckParameters.f k l) 0 → ∀ p, p < l.length → nameOf l p = t.toList → Place l t.toList p → 0 < d → Int.gcd n d = 1 → (c = 0 ∨ c = 1) ∧ (f = true → ∃ s m, Ask (rd_T44 l p) s n d ∧ RawAt (rd_T44 l p) s n d m x)) := by
 obtain ⟨c, c1, c2, c3⟩ := params_ev l h
 unfold telemetry_Raw.f perigeeref7_Raw.f
 by_cases hc : c = 0
 ·subst hc
  obtain ⟨hl, hf⟩ := c3 rfl
  obtain ⟨p, hp, ep⟩ := parameter_ev l hl hf t
  have fp := find_ev l hl hf t p hp
  unfold found at ep fp
  by_cases hq : p < l.length ∧ nameOf l p = t.toList
  ·rw [if_pos hq] at ep fp
   have fit := (hf p (by omega) hq.1).1
   by_cases hd0 : d ≤ 0
   ·refine ⟨0, false, 3, ?_, ?_, fun _ _ _ _ _ h => by omega⟩
    ·exact Ev.bind c1 (Ev.yes rfl (Ev.bind ep (Ev.yes rfl (Ev.yes hd0 (Ev.now _)))))
    ·exact Ev.bind c2 (Ev.yes rfl (Ev.bind fp (Ev.yes rfl (Ev.yes hd0 (Ev.step (fun k => by rw [perigeeref7_Raw.j0]) (Ev.yes rfl (Ev.now _)))))))
   ·have lo1 := lowest_ev n d (by omega) hd
    have hb := tmod_lt n d (by omega)
    have lo2 := gcdR_ev _ (Int.tmod n d) d rfl (by omega) (by omega)
    rw [Int.gcd_comm, gcd_tmod] at lo2
    by_cases hg : Int.gcd n d = 1
    ·rw [decide_eq_true hg] at lo1
     rw [hg] at lo2
     -- the ways behind the checks
     have ways : ∃ x f c, (c = 0 ∨ c = 1) ∧ (f = true → ∃ s m, Ask (rd_T44 l p) s n d ∧ RawAt (rd_T44 l p) s n d m x) ∧
      Ev (fun k => if d > 100 then (telemetry_Raw.j0 k true n d (rd_T44 l p).f0 (rd_T44 l p).f1 (rd_T44 l p).f2 (rd_T44 l p).f3 (rd_T44 l p).f4) else ((kit_In.f n (wrap64 ((-1000000000) * d)) (wrap64 (1000000000 * d))).bind fun t305 => (telemetry_Raw.j0 k (!t305) n d (rd_T44 l p).f0 (rd_T44 l p).f1 (rd_T44 l p).f2 (rd_T44 l p).f3 (rd_T44 l p).f4))) (x, f, c) ∧
      Ev (fun k => perigeeref7_Raw.j0 k false n d (rd_T44 l p).f0 (rd_T44 l p).f1 (rd_T44 l p).f2 (rd_T44 l p).f3 (rd_T44 l p).f4) (x, f, c) := by
      by_cases hd1 : d > 100
      ·refine ⟨0, false, 1, .inr rfl, fun h => absurd h (by simp), ?_, ?_⟩
       ·exact Ev.yes hd1 (Ev.step (fun k => by rw [telemetry_Raw.j0]) (Ev.yes rfl (Ev.now _)))
       ·refine Ev.step (fun k => by rw [perigeeref7_Raw.j0]) ?_
        exact Ev.no (by simp) (Ev.yes hd1 (Ev.step (fun k => by rw [perigeeref7_Raw.j1]) (Ev.yes rfl (Ev.now _))))
      ·by_cases hr : -1000000000 * d ≤ n ∧ n ≤ 1000000000 * d
       ·obtain ⟨s, s1, s2, s3⟩ := side_ev (rd_T44 l p).f3 fit.2.2.1
        by_cases hs : s = 0
        ·refine ⟨0, false, 0, .inl rfl, fun h => absurd h (by simp), ?_, ?_⟩
         ·refine Ev.no hd1 ?_
          rw [in_ev, w64 (by omega) (by omega), w64 (by omega) (by omega), decide_eq_true hr]
          exact Ev.step (fun k => by simp only [Option.bind_some]; rw [telemetry_Raw.j0]) (Ev.no (by simp) (Ev.bind s1 (Ev.yes hs (Ev.now _))))
         ·refine Ev.step (fun k => by rw [perigeeref7_Raw.j0]) (Ev.no (by simp) (Ev.no hd1 ?_))
          rw [within_ev, w64 (by omega) (by omega), w64 (by omega) (by omega), decide_eq_true hr]
          exact Ev.step (fun k => by simp only [Option.bind_some]; rw [perigeeref7_Raw.j1]) (Ev.no (by simp) (Ev.bind s2 (Ev.yes hs (Ev.now _))))
        ·have ask : Ask (rd_T44 l p) s n d := ⟨fit, s3 hs, by omega, by omega, hr.1, hr.2⟩
         have h2 := ask.dir.2.1
         obtain ⟨m, x, m1, m2, m3⟩ := raw_seg ask ((rd_T44 l p).f3.length - 2) 0 (by omega) (fun h => by omega)
         refine ⟨x, true, 0, .inl rfl, fun _ => ⟨s, m, ask, m1⟩, ?_, ?_⟩
         ·refine Ev.no hd1 ?_
          rw [in_ev, w64 (by omega) (by omega), w64 (by omega) (by omega), decide_eq_true hr]
          exact Ev.step (fun k => by simp only [Option.bind_some]; rw [telemetry_Raw.j0]) (Ev.no (by simp) (Ev.bind s1 (Ev.no hs m2)))
         ·refine Ev.step (fun k => by rw [perigeeref7_Raw.j0]) (Ev.no (by simp) (Ev.no hd1 ?_))
          rw [within_ev, w64 (by omega) (by omega), w64 (by omega) (by omega), decide_eq_true hr]
          exact Ev.step (fun k => by simp only [Option.bind_some]; rw [perigeeref7_Raw.j1]) (Ev.no (by simp) (Ev.bind s2 (Ev.no hs m3)))
       ·refine ⟨0, false, 1, .inr rfl, fun h => absurd h (by simp), ?_, ?_⟩
        ·refine Ev.no hd1 ?_
         rw [in_ev, w64 (by omega) (by omega), w64 (by omega) (by omega), decide_eq_false hr]
         exact Ev.step (fun k => by simp only [Option.bind_some]; rw [telemetry_Raw.j0]) (Ev.yes (by simp) (Ev.now _))
        ·refine Ev.step (fun k => by rw [perigeeref7_Raw.j0]) (Ev.no (by simp) (Ev.no hd1 ?_))
         rw [within_ev, w64 (by omega) (by omega), w64 (by omega) (by omega), decide_eq_false hr]
         exact Ev.step (fun k => by simp only [Option.bind_some]; rw [perigeeref7_Raw.j1]) (Ev.yes (by simp) (Ev.now _))
     obtain ⟨x, f, c, q1, q2, q3, q4⟩ := ways
     refine ⟨x, f, c, ?_, ?_, ?_⟩
     ·exact Ev.bind c1 (Ev.yes rfl (Ev.bind ep (Ev.yes rfl (Ev.no hd0 (Ev.bind lo1 (Ev.yes rfl q3))))))
     ·exact Ev.bind c2 (Ev.yes rfl (Ev.bind fp (Ev.yes rfl (Ev.no hd0 (Ev.no (by omega) (Ev.bind lo2 q4))))))
     ·intro _ p' a1 a2 a3 a4 a5
      obtain rfl := place_unique hp a3
      exact ⟨q1, q2⟩
    ·rw [decide_eq_false hg] at lo1
     refine ⟨0, false, 3, ?_, ?_, fun _ _ _ _ _ _ h => absurd h hg⟩
     ·exact Ev.bind c1 (Ev.yes rfl (Ev.bind ep (Ev.yes rfl (Ev.no hd0 (Ev.bind lo1 (Ev.no (by simp) (Ev.now _)))))))
     ·refine Ev.bind c2 (Ev.yes rfl (Ev.bind fp (Ev.yes rfl (Ev.no hd0 (Ev.no (by omega) (Ev.bind lo2 (Ev.step (fun k => by rw [perigeeref7_Raw.j0]) (Ev.yes ?_ (Ev.now _)))))))))
      simp
      omega
  ·rw [if_neg hq] at ep fp
   refine ⟨0, false, 9, ?_, ?_, fun _ q a1 a2 a3 => ?_⟩
   ·exact Ev.bind c1 (Ev.yes rfl (Ev.bind ep (Ev.no (by simp) (Ev.now _))))
   ·exact Ev.bind c2 (Ev.yes rfl (Ev.bind fp (Ev.no (by simp) (Ev.now _))))
   ·obtain rfl := place_unique hp a3
    exact absurd ⟨a1, a2⟩ hq
 ·exact ⟨0, false, c, Ev.bind c1 (Ev.no hc (Ev.now _)), Ev.bind c2 (Ev.no hc (Ev.now _)), fun h => absurd (Ev.unique c1 h) hc⟩
end Go.Proofs.Ytcefbdknoelacaa.Pure

-- YtcefbdknoelacaaQ5
set_option linter.unusedVariables false
set_option linter.unusedSimpArgs false
namespace Go.Proofs.Ytcefbdknoelacaa.Pure
open Go.RowKit Go.Proofs.Ytcefbdknoelacaa.Open Go.Proofs.Ytcefbdknoelacaa.P Go.Proofs.YtcefbdknoelacaaW.PrintWords Go.Proofs.YtcefbdknoelacaaW.PrintLast Go.Proofs.YtcefbdknoelacaaW.PrintMore

theorem low_gcd (a b : Int) (hb : 0 < b) : Int.gcd (low a b).1 (low a b).2 = 1 ∧ 0 < (low a b).2 ∧ (low a b).1 * b = (low a b).2 * a := by
 have hg : 0 < Int.gcd a b := Int.gcd_pos_of_ne_zero_right a (by omega)
 have d1 : (Int.gcd a b : Int) ∣ a := Int.gcd_dvd_left ..
 have d2 : (Int.gcd a b : Int) ∣ b := Int.gcd_dvd_right ..
 have e1 : Int.tdiv a (Int.gcd a b) = a / (Int.gcd a b : Int) := Int.tdiv_eq_ediv_of_dvd d1
 have e2 : Int.tdiv b (Int.gcd a b) = b / (Int.gcd a b : Int) := Int.tdiv_eq_ediv_of_dvd d2
 have m1 := Int.mul_ediv_cancel' d1
 have m2 := Int.mul_ediv_cancel' d2
 unfold low
 rw [e1, e2]
 refine ⟨?_, ?_, ?_⟩
 ·exact Int.gcd_ediv_gcd_ediv_gcd hg
 ·exact Int.ediv_pos_of_pos_of_dvd hb (by omega) d2
 ·generalize hx : a / (Int.gcd a b : Int) = x at m1
  generalize hy : b / (Int.gcd a b : Int) = y at m2
  generalize (Int.gcd a b : Int) = g at m1 m2
  show x * b = y * a
  rw [← m1, ← m2]
  rw [Int.mul_comm g y, Int.mul_comm g x, ← Int.mul_assoc, ← Int.mul_assoc, Int.mul_comm x y]

theorem Dir.le {P : List S91} {s : Int} (h : Dir P s) : ∀ (b a : Nat), a ≤ b → b < P.length → s * PV P a ≤ s * PV P b := by
 intro b
 induction b with
 | zero =>
  intro a h1 h2
  obtain rfl : a = 0 := by omega
  exact Int.le_refl _
 | succ b ih =>
  intro a h1 h2
  rcases Nat.lt_or_ge a (b + 1) with h3 | h3
  ·have := ih a (by omega) (by omega)
   have := h.2.2 b h2
   omega
  ·obtain rfl : a = b + 1 := by omega
   exact Int.le_refl _

theorem back {p : S44} {s x : Int} (fit : Fit p) (hx : lo p ≤ x ∧ x ≤ hi p) (m : Nat) (hm : m + 1 < p.f3.length) (v0 : 0 < m → R p m < x) (v1 : m + 2 < p.f3.length → x ≤ R p (m + 1))
 (ask : Ask p s (between p x m).1 (between p x m).2) (m' : Nat) (y : Int) (at' : RawAt p s (between p x m).1 (between p x m).2 m' y) : y = x := by
 have up := R_up fit m hm
 have hden : 0 < den p m := by unfold den; omega
 obtain ⟨g1, g2, g3⟩ := low_gcd (num p x m) (den p m) hden
 have e0 : between p x m = low (num p x m) (den p m) := rfl
 rw [e0] at ask at'
 generalize hn : (low (num p x m) (den p m)).1 = n at ask at' g1 g2 g3
 generalize hd : (low (num p x m) (den p m)).2 = d at ask at' g1 g2 g3
 -- s (n - V m d) D = (x - R m) C
 have key : AA p s n d m * den p m = (x - R p m) * CC p s d m := by
  unfold AA CC
  have h1 : (n - V p m * d) * den p m = d * ((x - R p m) * (V p (m + 1) - V p m)) := by
   rw [Int.sub_mul, g3]
   unfold num den
   rw [Int.mul_add, show d * (V p m * (R p (m + 1) - R p m)) = V p m * d * (R p (m + 1) - R p m) by rw [Int.mul_comm (V p m) d, Int.mul_assoc]]
   omega
  rw [Int.mul_assoc, h1]
  generalize V p (m + 1) - V p m = u
  generalize x - R p m = v
  rw [show s * (d * (v * u)) = v * (s * u * d) by
   rw [Int.mul_comm d (v * u), Int.mul_assoc v u d, ← Int.mul_assoc s v (u * d), Int.mul_comm s v, Int.mul_assoc v s (u * d), ← Int.mul_assoc s u d]]
 obtain ⟨a1, a2, a3, r, a4, rfl⟩ := at'
 have bd := ask.bd m hm
 have d0 := ask.d0
 -- the same two points
 have same : m' = m := by
  rcases Nat.lt_trichotomy m' m with h1 | h1 | h1
  ·exfalso
   have h2 := a3 (by omega)
   have h3 := ask.dir.le m (m' + 1) (by omega) (by omega)
   have h4 : s * V p (m' + 1) * d ≤ s * V p m * d := Int.mul_le_mul_of_nonneg_right h3 (by omega)
   have h5 := v0 (by omega)
   have h6 : 0 < (x - R p m) * CC p s d m := Int.mul_pos (by omega) bd.2.1.1
   rw [← key] at h6
   have h7 : AA p s n d m ≤ 0 := by unfold AA; rw [Int.mul_sub, ← Int.mul_assoc]; omega
   have h8 : AA p s n d m * den p m ≤ 0 := Int.mul_nonpos_of_nonpos_of_nonneg h7 (by omega)
   omega
  ·exact h1
  ·exfalso
   have h2 := a2 (by omega)
   have h3 := ask.dir.le m' (m + 1) (by omega) (by omega)
   have h4 : s * V p (m + 1) * d ≤ s * V p m' * d := Int.mul_le_mul_of_nonneg_right h3 (by omega)
   have h5 := v1 (by omega)
   have h6 : (x - R p m) * CC p s d m ≤ den p m * CC p s d m := Int.mul_le_mul_of_nonneg_right (by unfold den; omega) (by omega)
   rw [← key, Int.mul_comm (den p m)] at h6
   have h7 : AA p s n d m ≤ CC p s d m := Int.le_of_mul_le_mul_right h6 hden
   unfold AA CC at h7
   rw [Int.mul_sub, Int.mul_sub, Int.sub_mul, ← Int.mul_assoc] at h7
   omega
 subst same
 have hr : r = x - R p m' := by
  refine near_unique bd.2.1.1 a4 ?_
  rw [key]
  generalize x - R p m' = v
  have := bd.2.1.1
  generalize CC p s d m' = c at this
  unfold Near
  have q1 : c * (2 * v - 1) = 2 * (v * c) - c := by rw [Int.mul_sub, Int.mul_one, ← Int.mul_assoc, Int.mul_comm c 2, Int.mul_assoc, Int.mul_comm c v]
  have q2 : c * (2 * v + 1) = 2 * (v * c) + c := by rw [Int.mul_add, Int.mul_one, ← Int.mul_assoc, Int.mul_comm c 2, Int.mul_assoc, Int.mul_comm c v]
  rw [q1, q2]
  omega
 rw [hr, show R p m' + (x - R p m') = x by omega]
 exact clamp_in p x hx
end Go.Proofs.Ytcefbdknoelacaa.Pure

-- YtcefbdknoelacaaStTelemetryRawOfValue
set_option linter.unusedVariables false
namespace Go.Proofs.Ytcefbdknoelacaa.P
open Go.RowKit Go.Proofs.Ytcefbdknoelacaa.Open Go.Proofs.Ytcefbdknoelacaa.P Go.Proofs.YtcefbdknoelacaaW.PrintWords Go.Proofs.YtcefbdknoelacaaW.PrintLast Go.Proofs.YtcefbdknoelacaaW.PrintMore

def perigeelaw7_TelemetryRawOfValue.Law : Prop := ∀ (l0 : List (S44)) (a1 : ByteArray) (a2 : Int), (OkL 80 ok44) l0 → OkS a1 → OkI a2 → ∃ k, perigeelaw7_TelemetryRawOfValue.f k l0 a1 a2 = some true
end Go.Proofs.Ytcefbdknoelacaa.P

-- YtcefbdknoelacaaPureTelemetryRawOfValue
set_option linter.unusedVariables false
namespace Go.Proofs.Ytcefbdknoelacaa.Pure
open Go.RowKit Go.Proofs.Ytcefbdknoelacaa.Open Go.Proofs.Ytcefbdknoelacaa.P Go.Proofs.YtcefbdknoelacaaW.PrintWords Go.Proofs.YtcefbdknoelacaaW.PrintLast Go.Proofs.YtcefbdknoelacaaW.PrintMore

theorem awake_ev : Ev (fun k => perigeelaw7_awake.f k) true := Ev.of (fun k => perigeelaw7_awake.mono k) (k := 40) (by decide +kernel)
theorem TelemetryRawOfValue : perigeelaw7_TelemetryRawOfValue.Law := by
 intro l t x h0 h1 h2
 refine Ev.rounds (g := fun k => perigeelaw7_TelemetryRawOfValue.f k l t x) ?_
 unfold perigeelaw7_TelemetryRawOfValue.f
 obtain ⟨a, b, w, c, e1, _, e3, e4⟩ := value_ev l h0 t x
 refine Ev.bind e1 ?_
 by_cases hc : c = 0
 ·refine Ev.yes hc ?_
  obtain ⟨ch, p, hl, hf, hp, hn, pl, hx, w1, w2⟩ := e4 hc
  have fit := (hf p (by omega) hp).1
  have key : ∃ y f e, Ev (fun k => telemetry_Raw.f k l t a b) (y, f, e) ∧ (e = 0 ∨ e = 1) ∧ (f = true → y = x) := by
   by_cases h3 : (rd_T44 l p).f3.length = 0
   ·obtain ⟨rfl, rfl⟩ := w1 h3
    obtain ⟨y, f, e, r1, _, r3⟩ := raw_ev l h0 t a 1 (by omega)
    obtain ⟨q1, q2⟩ := r3 ch p hp hn pl (by omega) (by simp)
    refine ⟨y, f, e, r1, q1, fun hf => ?_⟩
    obtain ⟨s, m, ask, _⟩ := q2 hf
    have := ask.dir.2.1
    omega
   ·obtain ⟨m, m1, m2, m3, m4⟩ := w2 h3
    have up := R_up fit m m1
    obtain ⟨g1, g2, g3⟩ := low_gcd (num (rd_T44 l p) x m) (den (rd_T44 l p) m) (by unfold den; omega)
    have e0 : (a, b) = low (num (rd_T44 l p) x m) (den (rd_T44 l p) m) := m4
    have ea : a = (between (rd_T44 l p) x m).1 := by rw [← m4]
    have eb : b = (between (rd_T44 l p) x m).2 := by rw [← m4]
    rw [← e0] at g1 g2
    have bb : b.natAbs ≤ (den (rd_T44 l p) m).natAbs := by rw [eb]; exact tdiv_bd _ _
    have r0 := R_bd fit m (by omega)
    have r1 := R_bd fit (m + 1) m1
    have hden : den (rd_T44 l p) m = R (rd_T44 l p) (m + 1) - R (rd_T44 l p) m := rfl
    obtain ⟨y, f, e, r1, _, r3⟩ := raw_ev l h0 t a b (by omega)
    obtain ⟨q1, q2⟩ := r3 ch p hp hn pl g2 g1
    refine ⟨y, f, e, r1, q1, fun hf => ?_⟩
    obtain ⟨s, m', ask, at'⟩ := q2 hf
    subst ea eb
    exact back fit hx m m1 m2 m3 ask m' y at'
  obtain ⟨y, f, e, k1, k2, k3⟩ := key
  refine Ev.bind k1 ?_
  rcases k2 with rfl | rfl
  ·refine Ev.no (by simp) (Ev.yes rfl ?_)
   cases f with
   | true => exact Ev.yes rfl (Ev.yes (k3 rfl) (Ev.bind awake_ev (Ev.now _)))
   | false => exact Ev.no (by simp) (Ev.bind awake_ev (Ev.now _))
  ·exact Ev.yes rfl (Ev.bind awake_ev (Ev.now _))
 ·obtain ⟨rfl, rfl⟩ := e3 hc
  exact Ev.no hc (Ev.yes rfl (Ev.bind awake_ev (Ev.now _)))
end Go.Proofs.Ytcefbdknoelacaa.Pure

-- YtcefbdknoelacaaLawTelemetryRawOfValue
namespace Go.Proofs.Ytcefbdknoelacaa.telemetryRawOfValue
open Go.ChangeShapes Go.WideShapes Go.ChangeAt Go.RowKit Go.Proofs.Ytcefbdknoelacaa.Open Go.Proofs.Ytcefbdknoelacaa.P
open Go.ChangeMaps (open_string shut_string)
set_option linter.unusedVariables false
theorem own : ownKnob Try.prog.godebug = none := by kernel_rfl
theorem laidOut : laidOutB Try.prog = true := by kernel_rfl
set_option maxRecDepth 100000 in
theorem lifted (os : Os) (started : os.Started) (H : Type) (enc : TypeId × Value → H) :
 ReturnsInHanded {} Try.checked os 6 .any (Rows.telemetryRawOfValueSpec.pre6 enc Try.prog Try.f6 Rows.telemetryRawOfValueRow.domain false) (Rows.telemetryRawOfValueSpec.post enc Try.prog Try.f6 false true false false) := by
 refine returnsInHanded_of_change_sized (C := Try.checked) own started (by kernel_rfl) Try.func6
  (ChangeSpec.witness6 (enc := enc) (C := Try.checked) false ⟨#[], #[.slice none 0 0, .string ByteArray.empty, .int .i64 0], []⟩ 8 (by kernel_rfl) (by kernel_rfl) (by kernel_rfl) (by kernel_rfl)) ?_
 intro W base args ds gs before hval0 hW hcnd hsz0 _
 have hsz : (DataW.weightsEach Try.prog (Try.f6.params.toList ++ Rows.telemetryRawOfValueSpec.plain.varTypes Try.prog) (ds ++ gs)).all (· ≤ reachBytes) = true := hsz0
 have hval : ∀ (j : Nat) t v, Try.f6.params[j]? = some t → args[j]? = some v → Value.okWide Try.prog W .any base t v := hval0
 have hW' := hW
 obtain ⟨p, q, hA0, hV, rfl, hfz, hnd⟩ := hW
 have hA : DataW.TrodAll enc Try.prog W 0 (fun _ => true) true Try.f6.params.toList args.toList ds p := hA0
 rw [Try.params6] at hA hval hsz
 obtain ⟨v0, vs0, d0, ds0, p0, q0, hargs, rfl, rfl, h0, r0⟩ := trodAll_cons hA
 obtain ⟨v1, vs1, d1, ds1, p1, q1, rfl, rfl, rfl, h1, r1⟩ := trodAll_cons r0
 obtain ⟨v2, vs2, d2, ds2, p2, q2, rfl, rfl, rfl, h2, r2⟩ := trodAll_cons r1
 obtain ⟨rfl, rfl, rfl⟩ := trodAll_nil r2
 obtain rfl : args = #[v0, v1, v2] := by cases args; simp_all
 obtain ⟨rfl, rfl⟩ := trodVars_none hV
 have k0 := h0
 have lt0 : ∀ x ∈ p0, x.block < W.heap.size := by obtain ⟨m, hm⟩ := k0; exact DataW.trod_lt m _ _ _ hm
 obtain ⟨A0, len0, c0, rfl⟩ := okWide_slice Try.underlying22 (hval 0 22 v0 rfl rfl)
 obtain ⟨l0, rfl, hc0, hr0, y0⟩ := param_slice (d := k44) (ok := (OkL 80 ok44)) (j := 0) hsz rfl rfl h0 (opens_slice Try.underlying22 (by kernel_rfl) (by kernel_rfl) opens44)
 have k1 := h1
 have lt1 : ∀ x ∈ p1, x.block < W.heap.size := by obtain ⟨m, hm⟩ := k1; exact DataW.trod_lt m _ _ _ hm
 obtain ⟨a1, rfl⟩ := okWide_string Try.underlying9 (hval 1 9 v1 rfl rfl)
 obtain ⟨b1, e1, y1⟩ := param_any (d := Go.Proofs.YtcefbdknoelacaaW.PrintWords.Kd.string) (ok := OkS) (j := 1) hsz rfl rfl h1 (opens_string Try.underlying9)
 obtain rfl : a1 = b1 := by simpa [Value.cells, Go.Proofs.YtcefbdknoelacaaW.PrintWords.Kd.string, Go.Proofs.YtcefbdknoelacaaW.PrintWords.Kd.scalar] using e1
 have k2 := h2
 have lt2 : ∀ x ∈ p2, x.block < W.heap.size := by obtain ⟨m, hm⟩ := k2; exact DataW.trod_lt m _ _ _ hm
 obtain ⟨a2, rfl⟩ := okWide_int Try.underlying3 (hval 2 3 v2 rfl rfl)
 obtain ⟨b2, e2, y2⟩ := param_any (d := (Go.Proofs.YtcefbdknoelacaaW.PrintWords.Kd.int .i64)) (ok := OkI) (j := 2) hsz rfl rfl h2 (opens_i64 Try.underlying3)
 obtain rfl : a2 = b2 := by simpa [Value.cells, Go.Proofs.YtcefbdknoelacaaW.PrintWords.Kd.int, Go.Proofs.YtcefbdknoelacaaW.PrintWords.Kd.scalar] using e2
 clear hA0 hval0 hsz0 hsz
 obtain ⟨k, hk⟩ := Pure.TelemetryRawOfValue l0 a1 a2 y0 y1 y2
 refine (perigeelaw7_TelemetryRawOfValue.calls (r := true) (w := W) (hr0 := hr0) (hc0 := hc0) (h := hk)).mono fun e W' ⟨he, bel0⟩ => ?_
 have bel : Below W.heap.size W W' := bel0
 subst he
 exact ⟨_, rfl, _, _, _, [], _, [], hW', trodAll_mk1 (shut_bool Try.underlying4 _), (trodAll_cons_mk (Below.trod laidOut (by kernel_rfl) (of_decide_eq_true (by kernel_rfl)) k0 bel lt0) (trodAll_cons_mk (Below.trod laidOut (by kernel_rfl) (of_decide_eq_true (by kernel_rfl)) k1 bel lt1) (trodAll_cons_mk (Below.trod laidOut (by kernel_rfl) (of_decide_eq_true (by kernel_rfl)) k2 bel lt2) trodAll_mk0))), rfl, bel.frame _, fun h => by cases h⟩
end Go.Proofs.Ytcefbdknoelacaa.telemetryRawOfValue
