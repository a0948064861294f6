/- CheckParameters and Value answer as the reference's do, with all errors; no condition but the guard -/
import Derived.Below
import Derived.Carry
import Derived.ChangeArms
import Derived.ChangeOld
import Derived.ChangeSlices
import Derived.DataElems
import Derived.DataReads
import Derived.IntWalk
import Derived.Lib.Strings
import Derived.OpenShut
import Derived.ProofKit
import Derived.ShutString
import Derived.SizedLaws
import Derived.Test.YtcefbdknoelacaaRows
import Derived.WalkKit
import Derived.Test.YtcefbdknoelacaaCTelemetryValuesMatchSpec5
-- YtcefbdknoelacaaF34
namespace Go.Proofs.Ytcefbdknoelacaa.P
open Go.RowKit Go.Proofs.YtcefbdknoelacaaW.PrintWords Go.Proofs.YtcefbdknoelacaaW.PrintLast Go.Proofs.YtcefbdknoelacaaW.PrintMore
attribute [local go_sem] max2_int min2_int max_two min_two max_three min_three max_four min_four Go.Proofs.Ytcefbdknoelacaa.Strs.leqS Go.Proofs.Ytcefbdknoelacaa.Strs.gtrS Go.Proofs.Ytcefbdknoelacaa.Strs.geqS   -- for this text's walks alone
set_option linter.unusedVariables false
set_option linter.unusedSimpArgs false

attribute [local go_sem high] eqA24
def perigeelaw7_TelemetryValuesMatchSpec.f (k : Nat) (l0 : List (S44)) (a1 : ByteArray) (a2 : Int) : Option (Bool) := (telemetry_Value.f k l0 a1 a2).bind fun bt268 => ((perigeeref7_Value.f k l0 a1 a2).bind fun bt273 => ((telemetry_CheckParameters.f k l0).bind fun t278 => ((perigeeref7_CheckParameters.f k l0).bind fun t279 => (if t278 = t279 then (if bt268.2.2.2 = bt273.2.2.2 then (if (bt268.1 == bt273.1 && (bt268.2.1 == bt273.2.1)) = true then (if bt268.2.2.1.toList = bt273.2.2.1.toList then ((perigeelaw7_awake.f k).bind fun t280 => (some t280)) else (some false)) else (some false)) else (some false)) else (some false)))))
set_option maxHeartbeats 8000000 in
set_option maxRecDepth 100000 in
theorem perigeelaw7_TelemetryValuesMatchSpec.calls (k : Nat) (A0 : Option Addr) (c0 : Nat) (l0 : List (S44)) (a1 : ByteArray) (a2 : Int) (r : Bool) (w : World) (hr0 : Kd.C k44 w A0 l0.length l0) (hc0 : l0.length ≤ c0) (h : perigeelaw7_TelemetryValuesMatchSpec.f k l0 a1 a2 = some r) :
 Calls Try.prog 3 #[.slice A0 l0.length c0, .string a1, .int .i64 a2] w fun e w' => e = .returned (.bool r) ∧ Below w.heap.size w w' := by
 have hu24 := Try.underlying24
 have HR0 := Aside0.mk hr0
 have HC0 := Aside0.mk hc0
 clear hr0 hc0
 have HB := Aside0.mk (Below.refl w.heap.size w)
 have H : ((telemetry_Value.f k l0 a1 a2).bind fun bt268 => ((perigeeref7_Value.f k l0 a1 a2).bind fun bt273 => ((telemetry_CheckParameters.f k l0).bind fun t278 => ((perigeeref7_CheckParameters.f k l0).bind fun t279 => (if t278 = t279 then (if bt268.2.2.2 = bt273.2.2.2 then (if (bt268.1 == bt273.1 && (bt268.2.1 == bt273.2.1)) = true then (if bt268.2.2.1.toList = bt273.2.2.1.toList then ((perigeelaw7_awake.f k).bind fun t280 => (some t280)) else (some false)) else (some false)) else (some false)) else (some false)))))) = some r := h
 clear h
 replace H := Option.bind_eq_some_iff.mp H
 obtain ⟨⟨t268, t269, t270, t271⟩, A40, H⟩ := H
 replace H : ((perigeeref7_Value.f k l0 a1 a2).bind fun bt273 => ((telemetry_CheckParameters.f k l0).bind fun t278 => ((perigeeref7_CheckParameters.f k l0).bind fun t279 => (if t278 = t279 then (if t271 = bt273.2.2.2 then (if (t268 == bt273.1 && (t269 == bt273.2.1)) = true then (if t270.toList = bt273.2.2.1.toList then ((perigeelaw7_awake.f k).bind fun t280 => (some t280)) else (some false)) else (some false)) else (some false)) else (some false))))) = some r := H
 have A4 := Aside0.mk A40
 clear A40
 replace H := Option.bind_eq_some_iff.mp H
 obtain ⟨⟨t273, t274, t275, t276⟩, A50, H⟩ := H
 replace H : ((telemetry_CheckParameters.f k l0).bind fun t278 => ((perigeeref7_CheckParameters.f k l0).bind fun t279 => (if t278 = t279 then (if t271 = t276 then (if (t268 == t273 && (t269 == t274)) = true then (if t270.toList = t275.toList then ((perigeelaw7_awake.f k).bind fun t280 => (some t280)) else (some false)) else (some false)) else (some false)) else (some false)))) = some r := H
 have A5 := Aside0.mk A50
 clear A50
 replace H := Option.bind_eq_some_iff.mp H
 obtain ⟨t278, A60, H⟩ := H
 replace H : ((perigeeref7_CheckParameters.f k l0).bind fun t279 => (if t278 = t279 then (if t271 = t276 then (if (t268 == t273 && (t269 == t274)) = true then (if t270.toList = t275.toList then ((perigeelaw7_awake.f k).bind fun t280 => (some t280)) else (some false)) else (some false)) else (some false)) else (some false))) = some r := H
 have A6 := Aside0.mk A60
 clear A60
 replace H := Option.bind_eq_some_iff.mp H
 obtain ⟨t279, A70, H⟩ := H
 replace H : (if t278 = t279 then (if t271 = t276 then (if (t268 == t273 && (t269 == t274)) = true then (if t270.toList = t275.toList then ((perigeelaw7_awake.f k).bind fun t280 => (some t280)) else (some false)) else (some false)) else (some false)) else (some false)) = some r := H
 have A7 := Aside0.mk A70
 clear A70
 by_cases c8 : t278 = t279
 ·rw [if_pos c8] at H
  have c8b0 : (t278 == t279) = true := beq_iff_eq.mpr c8
  have c8b1 : (t278 != t279) = false := bne_eq_false_iff_eq.mpr c8
  clear c8
  by_cases c9 : t271 = t276
  ·rw [if_pos c9] at H
   have c9b0 : (t271 == t276) = true := beq_iff_eq.mpr c9
   have c9b1 : (t271 != t276) = false := bne_eq_false_iff_eq.mpr c9
   clear c9
   by_cases c10 : (t268 == t273 && (t269 == t274)) = true
   ·rw [if_pos c10] at H
    have c10b0 : (t268 == t273 && (t269 == t274)) = true := c10
    (try (have c10b1 : decide (t268 = t273 && (t269 == t274)) = true := by simpa using c10))
    (try (have c10b2 : (t268 == t273 && (t269 == t274)) = true := by simpa using c10))
    clear c10
    by_cases c11 : t270.toList = t275.toList
    ·rw [if_pos c11] at H
     have c11b0 : (t270.toList == t275.toList) = true := beq_iff_eq.mpr c11
     have c11b1 : (t270.toList != t275.toList) = false := bne_eq_false_iff_eq.mpr c11
     clear c11
     replace H := Option.bind_eq_some_iff.mp H
     obtain ⟨t280, A120, H⟩ := H
     replace H : (some t280) = some r := H
     have A12 := Aside0.mk A120
     clear A120
     obtain rfl := Option.some.inj H
     go_enter Try.func3, Try.ntmps3
     go_wp2_with (first | ((with_reducible refine gate_callee (f := 16) rfl ?_); refine goesL_ (some 17) rfl rfl Try.func16 (by kernel_rfl) rfl #[.slice A0 l0.length c0, .string a1, .int .i64 a2] rfl (by (try simp only [List.map_toArray, List.map_cons, List.map_nil]); first | done | rfl | (simp only [List.length_drop, List.length_take]; rfl)) ?_; (with_reducible refine (telemetry_Value.calls k _ _ l0 a1 a2 t268 t269 t270 t271 _ ?side1 ?side2 A4.out).mono ?_); (case side1 => repeat (first | exact HR0.out | (with_reducible refine Kd.C_alloc ?_ _) | (with_reducible refine Kd.C_drewN ?_ _) | (with_reducible refine Kd.C_drew ?_))); (case side2 => exact HC0.out); rintro e w13 ⟨rfl, hb⟩; refine ⟨_, rfl, ?_⟩; have n0_ := Aside0.mk (below_step (by repeat (first | (with_reducible first | exact HB.out | apply below_alloc | apply pw_below_drewN | apply below_drew1) | exact HB.out)) hb); clear HB; have HB := n0_; clear n0_; (try clear hb); (try clear hb2); (try clear hk); (try clear hi)) | ((with_reducible refine gate_dst (N := 7) rfl ?_); refine box_event ?hg (N := 7) ?hd (cs := #[.int .i64 0, .int .i64 0]) (t := 24) ?hr ?_; (case hd => rfl); (case hg => rfl); (case hr => first | (go_simp; done) | (go_simp; rfl)); intro gb272 hg w14 hbox hb; have n0_ := Aside0.mk (below_step (by repeat (first | (with_reducible first | exact HB.out | apply below_alloc | apply pw_below_drewN | apply below_drew1) | exact HB.out)) hb); have n1_ := Aside0.mk (hbox); have n2_ := Aside0.mk ((by rw [hg]; exact (below_size (by repeat (first | (with_reducible first | exact HB.out | apply below_alloc | apply pw_below_drewN | apply below_drew1) | exact HB.out))) : w.heap.size ≤ gb272)); have n3_ := Aside0.mk ((by rw [hg]; exact (below_size (by repeat (first | (with_reducible first | exact HB.out | apply below_alloc | apply pw_below_drewN | apply below_drew1) | exact HB.out))) : w.heap.size ≤ gb272)); clear HB; have HB := n0_; have BK272 := n1_; have GW272 := n2_; have GE272 := n3_; clear n0_ n1_ n2_ n3_; clear hb hbox hg; have hcz15_0 : w14.cell? ⟨gb272, 0, none⟩ = some (.int .i64 0) := (blk_cell BK272.out 0).trans rfl; have hcz15_1 : w14.cell? ⟨gb272, 1, none⟩ = some (.int .i64 0) := (blk_cell BK272.out 1).trans rfl; have hfz15_0 := blk_frozen BK272.out 0; have hfz15_1 := blk_frozen BK272.out 1) | ((with_reducible refine gate_callee (f := 17) rfl ?_); refine goesL_ (some 25) rfl rfl Try.func17 (by kernel_rfl) rfl #[.slice A0 l0.length c0, .string a1, .int .i64 a2] rfl (by (try simp only [List.map_toArray, List.map_cons, List.map_nil]); first | done | rfl | (simp only [List.length_drop, List.length_take]; rfl)) ?_; (with_reducible refine (perigeeref7_Value.calls k _ _ l0 a1 a2 t273 t274 t275 t276 _ ?side1 ?side2 A5.out).mono ?_); (case side1 => exact Kd.C_below HR0.out (by repeat (first | (with_reducible first | exact HB.out | apply below_alloc | apply pw_below_drewN | apply below_drew1 | refine below_set ?_ GE272.out) | exact HB.out))); (case side2 => exact HC0.out); rintro e w16 ⟨rfl, hb⟩; refine ⟨_, rfl, ?_⟩; have n0_ := Aside0.mk (blk_below (g := gb272) (o := .cells #[.int .i64 t268, .int .i64 t269] 24 (0, 0)) (by (with_reducible repeat (first | refine blk_drewN ?_ _ | refine blk_drew ?_ | refine blk_alloc ?_ _)); refine blk_put (cs := #[.int .i64 t268, .int .i64 0]) ?_ 1 _ rfl; (with_reducible repeat (first | refine blk_drewN ?_ _ | refine blk_drew ?_ | refine blk_alloc ?_ _)); refine blk_put (cs := #[.int .i64 0, .int .i64 0]) ?_ 0 _ rfl; (with_reducible repeat (first | refine blk_drewN ?_ _ | refine blk_drew ?_ | refine blk_alloc ?_ _)); exact BK272.out) hb); have n1_ := Aside0.mk (below_step (by repeat (first | (with_reducible first | exact HB.out | apply below_alloc | apply pw_below_drewN | apply below_drew1 | refine below_set ?_ GE272.out) | exact HB.out)) hb); clear BK272; clear HB; have BK272 := n0_; have HB := n1_; clear n0_ n1_; (try clear hb); (try clear hb2); (try clear hk); (try clear hi)) | ((with_reducible refine gate_dst (N := 10) rfl ?_); refine box_event ?hg (N := 10) ?hd (cs := #[.int .i64 0, .int .i64 0]) (t := 24) ?hr ?_; (case hd => rfl); (case hg => rfl); (case hr => first | (go_simp; done) | (go_simp; rfl)); intro gb277 hg w17 hbox hb; have n0_ := Aside0.mk (blk_below (g := gb272) (o := .cells #[.int .i64 t268, .int .i64 t269] 24 (0, 0)) (by (with_reducible repeat (first | refine blk_drewN ?_ _ | refine blk_drew ?_ | refine blk_alloc ?_ _)); exact BK272.out) hb); have n1_ := Aside0.mk (below_step (by repeat (first | (with_reducible first | exact HB.out | apply below_alloc | apply pw_below_drewN | apply below_drew1 | refine below_set ?_ GE272.out) | exact HB.out)) hb); have n2_ := Aside0.mk (hbox); have n3_ := Aside0.mk ((by rw [hg]; exact (below_size (by repeat (first | (with_reducible first | exact HB.out | apply below_alloc | apply pw_below_drewN | apply below_drew1 | refine below_set ?_ GE272.out) | exact HB.out))) : w.heap.size ≤ gb277)); have n4_ := Aside0.mk ((by rw [hg]; exact (below_size (by repeat (first | (with_reducible first | exact HB.out | apply below_alloc | apply pw_below_drewN | apply below_drew1 | refine below_set ?_ GE272.out) | exact HB.out))) : w.heap.size ≤ gb277)); have n5_ := Aside0.mk ((by rw [hg]; exact Nat.ne_of_lt (blk_lt (g := gb272) (o := .cells #[.int .i64 t268, .int .i64 t269] 24 (0, 0)) (by (with_reducible repeat (first | refine blk_drewN ?_ _ | refine blk_drew ?_ | refine blk_alloc ?_ _)); exact BK272.out)) : gb272 ≠ gb277)); have n6_ := Aside0.mk ((by rw [hg]; exact Nat.ne_of_gt (blk_lt (g := gb272) (o := .cells #[.int .i64 t268, .int .i64 t269] 24 (0, 0)) (by (with_reducible repeat (first | refine blk_drewN ?_ _ | refine blk_drew ?_ | refine blk_alloc ?_ _)); exact BK272.out)) : gb277 ≠ gb272)); clear BK272; clear HB; have BK272 := n0_; have HB := n1_; have BK277 := n2_; have GW277 := n3_; have GE277 := n4_; have NB272_277 := n5_; have NB277_272 := n6_; clear n0_ n1_ n2_ n3_ n4_ n5_ n6_; clear hb hbox hg; have hnb18 := NB277_272.out; have hnc18 := NB272_277.out; have hcz19_0 : w17.cell? ⟨gb277, 0, none⟩ = some (.int .i64 0) := (blk_cell BK277.out 0).trans rfl; have hcz19_1 : w17.cell? ⟨gb277, 1, none⟩ = some (.int .i64 0) := (blk_cell BK277.out 1).trans rfl; have hfz19_0 := blk_frozen BK277.out 0; have hfz19_1 := blk_frozen BK277.out 1) | ((with_reducible refine gate_callee (f := 18) rfl ?_); refine goesL_ (some 30) rfl rfl Try.func18 (by kernel_rfl) rfl #[.slice A0 l0.length c0] rfl (by (try simp only [List.map_toArray, List.map_cons, List.map_nil]); first | done | rfl | (simp only [List.length_drop, List.length_take]; rfl)) ?_; (with_reducible refine (telemetry_CheckParameters.calls k _ _ l0 t278 _ ?side1 ?side2 A6.out).mono ?_); (case side1 => exact Kd.C_below HR0.out (by repeat (first | (with_reducible first | exact HB.out | apply below_alloc | apply pw_below_drewN | apply below_drew1 | refine below_set ?_ GE272.out | refine below_set ?_ GE277.out) | exact HB.out))); (case side2 => exact HC0.out); rintro e w20 ⟨rfl, hb⟩; refine ⟨_, rfl, ?_⟩; have n0_ := Aside0.mk (blk_below (g := gb272) (o := .cells #[.int .i64 t268, .int .i64 t269] 24 (0, 0)) (by (with_reducible repeat (first | refine blk_drewN ?_ _ | refine blk_drew ?_ | refine blk_alloc ?_ _)); refine blk_far ?_ NB272_277.out _; (with_reducible repeat (first | refine blk_drewN ?_ _ | refine blk_drew ?_ | refine blk_alloc ?_ _)); refine blk_far ?_ NB272_277.out _; (with_reducible repeat (first | refine blk_drewN ?_ _ | refine blk_drew ?_ | refine blk_alloc ?_ _)); exact BK272.out) hb); have n1_ := Aside0.mk (blk_below (g := gb277) (o := .cells #[.int .i64 t273, .int .i64 t274] 24 (0, 0)) (by (with_reducible repeat (first | refine blk_drewN ?_ _ | refine blk_drew ?_ | refine blk_alloc ?_ _)); refine blk_put (cs := #[.int .i64 t273, .int .i64 0]) ?_ 1 _ rfl; (with_reducible repeat (first | refine blk_drewN ?_ _ | refine blk_drew ?_ | refine blk_alloc ?_ _)); refine blk_put (cs := #[.int .i64 0, .int .i64 0]) ?_ 0 _ rfl; (with_reducible repeat (first | refine blk_drewN ?_ _ | refine blk_drew ?_ | refine blk_alloc ?_ _)); exact BK277.out) hb); have n2_ := Aside0.mk (below_step (by repeat (first | (with_reducible first | exact HB.out | apply below_alloc | apply pw_below_drewN | apply below_drew1 | refine below_set ?_ GE272.out | refine below_set ?_ GE277.out) | exact HB.out)) hb); clear BK272; clear BK277; clear HB; have BK272 := n0_; have BK277 := n1_; have HB := n2_; clear n0_ n1_ n2_; (try clear hb); (try clear hb2); (try clear hk); (try clear hi)) | ((with_reducible refine gate_callee (f := 19) rfl ?_); refine goesL_ (some 32) rfl rfl Try.func19 (by kernel_rfl) rfl #[.slice A0 l0.length c0] rfl (by (try simp only [List.map_toArray, List.map_cons, List.map_nil]); first | done | rfl | (simp only [List.length_drop, List.length_take]; rfl)) ?_; (with_reducible refine (perigeeref7_CheckParameters.calls k _ _ l0 t279 _ ?side1 ?side2 A7.out).mono ?_); (case side1 => repeat (first | exact (Kd.C_below HR0.out HB.out) | (with_reducible refine Kd.C_alloc ?_ _) | (with_reducible refine Kd.C_drewN ?_ _) | (with_reducible refine Kd.C_drew ?_))); (case side2 => exact HC0.out); rintro e w21 ⟨rfl, hb⟩; refine ⟨_, rfl, ?_⟩; have n0_ := Aside0.mk (blk_below (g := gb272) (o := .cells #[.int .i64 t268, .int .i64 t269] 24 (0, 0)) (by (with_reducible repeat (first | refine blk_drewN ?_ _ | refine blk_drew ?_ | refine blk_alloc ?_ _)); exact BK272.out) hb); have n1_ := Aside0.mk (blk_below (g := gb277) (o := .cells #[.int .i64 t273, .int .i64 t274] 24 (0, 0)) (by (with_reducible repeat (first | refine blk_drewN ?_ _ | refine blk_drew ?_ | refine blk_alloc ?_ _)); exact BK277.out) hb); have n2_ := Aside0.mk (below_step (by repeat (first | (with_reducible first | exact HB.out | apply below_alloc | apply pw_below_drewN | apply below_drew1 | refine below_set ?_ GE272.out | refine below_set ?_ GE277.out) | exact HB.out)) hb); clear BK272; clear BK277; clear HB; have BK272 := n0_; have BK277 := n1_; have HB := n2_; clear n0_ n1_ n2_; (try clear hb); (try clear hb2); (try clear hk); (try clear hi); have hcz22_0 : w21.cell? ⟨gb272, 0, none⟩ = some (.int .i64 t268) := (blk_cell BK272.out 0).trans rfl; have hcz22_1 : w21.cell? ⟨gb272, 1, none⟩ = some (.int .i64 t269) := (blk_cell BK272.out 1).trans rfl; have hfz22_0 := blk_frozen BK272.out 0; have hfz22_1 := blk_frozen BK272.out 1; have hcz23_0 : w21.cell? ⟨gb277, 0, none⟩ = some (.int .i64 t273) := (blk_cell BK277.out 0).trans rfl; have hcz23_1 : w21.cell? ⟨gb277, 1, none⟩ = some (.int .i64 t274) := (blk_cell BK277.out 1).trans rfl; have hfz23_0 := blk_frozen BK277.out 0; have hfz23_1 := blk_frozen BK277.out 1) | (go_at_call 20; (with_reducible refine (perigeelaw7_awake.calls k  t280 _ A12.out).mono ?_); rintro e w24 ⟨rfl, hb⟩; have n0_ := Aside0.mk (blk_below (g := gb272) (o := .cells #[.int .i64 t268, .int .i64 t269] 24 (0, 0)) (by (with_reducible repeat (first | refine blk_drewN ?_ _ | refine blk_drew ?_ | refine blk_alloc ?_ _)); exact BK272.out) hb); have n1_ := Aside0.mk (blk_below (g := gb277) (o := .cells #[.int .i64 t273, .int .i64 t274] 24 (0, 0)) (by (with_reducible repeat (first | refine blk_drewN ?_ _ | refine blk_drew ?_ | refine blk_alloc ?_ _)); exact BK277.out) hb); have n2_ := Aside0.mk (below_step (by repeat (first | (with_reducible first | exact HB.out | apply below_alloc | apply pw_below_drewN | apply below_drew1 | refine below_set ?_ GE272.out | refine below_set ?_ GE277.out) | exact HB.out)) hb); clear BK272; clear BK277; clear HB; have BK272 := n0_; have BK277 := n1_; have HB := n2_; clear n0_ n1_ n2_; (try clear hb); (try clear hb2); (try clear hk); (try clear hi)))
     go_ret
     exact ⟨by first | rfl | (simp [errW_none, errW_some] <;> rfl) | (simp [*, errW_none, errW_some] <;> rfl), by repeat (first | (with_reducible first | exact HB.out | apply below_alloc | apply pw_below_drewN | apply below_drew1 | refine below_set ?_ GE272.out | refine below_set ?_ GE277.out) | exact HB.out)⟩
    ·rw [if_neg c11] at H
     have c11b0 : (t270.toList == t275.toList) = false := beq_eq_false_iff_ne.mpr c11
     have c11b1 : (t270.toList != t275.toList) = true := bne_iff_ne.mpr c11
     obtain rfl := Option.some.inj H
     go_enter Try.func3, Try.ntmps3
     go_wp2_with (first | ((with_reducible refine gate_callee (f := 16) rfl ?_); refine goesL_ (some 17) rfl rfl Try.func16 (by kernel_rfl) rfl #[.slice A0 l0.length c0, .string a1, .int .i64 a2] rfl (by (try simp only [List.map_toArray, List.map_cons, List.map_nil]); first | done | rfl | (simp only [List.length_drop, List.length_take]; rfl)) ?_; (with_reducible refine (telemetry_Value.calls k _ _ l0 a1 a2 t268 t269 t270 t271 _ ?side1 ?side2 A4.out).mono ?_); (case side1 => repeat (first | exact HR0.out | (with_reducible refine Kd.C_alloc ?_ _) | (with_reducible refine Kd.C_drewN ?_ _) | (with_reducible refine Kd.C_drew ?_))); (case side2 => exact HC0.out); rintro e w25 ⟨rfl, hb⟩; refine ⟨_, rfl, ?_⟩; have n0_ := Aside0.mk (below_step (by repeat (first | (with_reducible first | exact HB.out | apply below_alloc | apply pw_below_drewN | apply below_drew1) | exact HB.out)) hb); clear HB; have HB := n0_; clear n0_; (try clear hb); (try clear hb2); (try clear hk); (try clear hi)) | ((with_reducible refine gate_dst (N := 7) rfl ?_); refine box_event ?hg (N := 7) ?hd (cs := #[.int .i64 0, .int .i64 0]) (t := 24) ?hr ?_; (case hd => rfl); (case hg => rfl); (case hr => first | (go_simp; done) | (go_simp; rfl)); intro gb272 hg w26 hbox hb; have n0_ := Aside0.mk (below_step (by repeat (first | (with_reducible first | exact HB.out | apply below_alloc | apply pw_below_drewN | apply below_drew1) | exact HB.out)) hb); have n1_ := Aside0.mk (hbox); have n2_ := Aside0.mk ((by rw [hg]; exact (below_size (by repeat (first | (with_reducible first | exact HB.out | apply below_alloc | apply pw_below_drewN | apply below_drew1) | exact HB.out))) : w.heap.size ≤ gb272)); have n3_ := Aside0.mk ((by rw [hg]; exact (below_size (by repeat (first | (with_reducible first | exact HB.out | apply below_alloc | apply pw_below_drewN | apply below_drew1) | exact HB.out))) : w.heap.size ≤ gb272)); clear HB; have HB := n0_; have BK272 := n1_; have GW272 := n2_; have GE272 := n3_; clear n0_ n1_ n2_ n3_; clear hb hbox hg; have hcz27_0 : w26.cell? ⟨gb272, 0, none⟩ = some (.int .i64 0) := (blk_cell BK272.out 0).trans rfl; have hcz27_1 : w26.cell? ⟨gb272, 1, none⟩ = some (.int .i64 0) := (blk_cell BK272.out 1).trans rfl; have hfz27_0 := blk_frozen BK272.out 0; have hfz27_1 := blk_frozen BK272.out 1) | ((with_reducible refine gate_callee (f := 17) rfl ?_); refine goesL_ (some 25) rfl rfl Try.func17 (by kernel_rfl) rfl #[.slice A0 l0.length c0, .string a1, .int .i64 a2] rfl (by (try simp only [List.map_toArray, List.map_cons, List.map_nil]); first | done | rfl | (simp only [List.length_drop, List.length_take]; rfl)) ?_; (with_reducible refine (perigeeref7_Value.calls k _ _ l0 a1 a2 t273 t274 t275 t276 _ ?side1 ?side2 A5.out).mono ?_); (case side1 => exact Kd.C_below HR0.out (by repeat (first | (with_reducible first | exact HB.out | apply below_alloc | apply pw_below_drewN | apply below_drew1 | refine below_set ?_ GE272.out) | exact HB.out))); (case side2 => exact HC0.out); rintro e w28 ⟨rfl, hb⟩; refine ⟨_, rfl, ?_⟩; have n0_ := Aside0.mk (blk_below (g := gb272) (o := .cells #[.int .i64 t268, .int .i64 t269] 24 (0, 0)) (by (with_reducible repeat (first | refine blk_drewN ?_ _ | refine blk_drew ?_ | refine blk_alloc ?_ _)); refine blk_put (cs := #[.int .i64 t268, .int .i64 0]) ?_ 1 _ rfl; (with_reducible repeat (first | refine blk_drewN ?_ _ | refine blk_drew ?_ | refine blk_alloc ?_ _)); refine blk_put (cs := #[.int .i64 0, .int .i64 0]) ?_ 0 _ rfl; (with_reducible repeat (first | refine blk_drewN ?_ _ | refine blk_drew ?_ | refine blk_alloc ?_ _)); exact BK272.out) hb); have n1_ := Aside0.mk (below_step (by repeat (first | (with_reducible first | exact HB.out | apply below_alloc | apply pw_below_drewN | apply below_drew1 | refine below_set ?_ GE272.out) | exact HB.out)) hb); clear BK272; clear HB; have BK272 := n0_; have HB := n1_; clear n0_ n1_; (try clear hb); (try clear hb2); (try clear hk); (try clear hi)) | ((with_reducible refine gate_dst (N := 10) rfl ?_); refine box_event ?hg (N := 10) ?hd (cs := #[.int .i64 0, .int .i64 0]) (t := 24) ?hr ?_; (case hd => rfl); (case hg => rfl); (case hr => first | (go_simp; done) | (go_simp; rfl)); intro gb277 hg w29 hbox hb; have n0_ := Aside0.mk (blk_below (g := gb272) (o := .cells #[.int .i64 t268, .int .i64 t269] 24 (0, 0)) (by (with_reducible repeat (first | refine blk_drewN ?_ _ | refine blk_drew ?_ | refine blk_alloc ?_ _)); exact BK272.out) hb); have n1_ := Aside0.mk (below_step (by repeat (first | (with_reducible first | exact HB.out | apply below_alloc | apply pw_below_drewN | apply below_drew1 | refine below_set ?_ GE272.out) | exact HB.out)) hb); have n2_ := Aside0.mk (hbox); have n3_ := Aside0.mk ((by rw [hg]; exact (below_size (by repeat (first | (with_reducible first | exact HB.out | apply below_alloc | apply pw_below_drewN | apply below_drew1 | refine below_set ?_ GE272.out) | exact HB.out))) : w.heap.size ≤ gb277)); have n4_ := Aside0.mk ((by rw [hg]; exact (below_size (by repeat (first | (with_reducible first | exact HB.out | apply below_alloc | apply pw_below_drewN | apply below_drew1 | refine below_set ?_ GE272.out) | exact HB.out))) : w.heap.size ≤ gb277)); have n5_ := Aside0.mk ((by rw [hg]; exact Nat.ne_of_lt (blk_lt (g := gb272) (o := .cells #[.int .i64 t268, .int .i64 t269] 24 (0, 0)) (by (with_reducible repeat (first | refine blk_drewN ?_ _ | refine blk_drew ?_ | refine blk_alloc ?_ _)); exact BK272.out)) : gb272 ≠ gb277)); have n6_ := Aside0.mk ((by rw [hg]; exact Nat.ne_of_gt (blk_lt (g := gb272) (o := .cells #[.int .i64 t268, .int .i64 t269] 24 (0, 0)) (by (with_reducible repeat (first | refine blk_drewN ?_ _ | refine blk_drew ?_ | refine blk_alloc ?_ _)); exact BK272.out)) : gb277 ≠ gb272)); clear BK272; clear HB; have BK272 := n0_; have HB := n1_; have BK277 := n2_; have GW277 := n3_; have GE277 := n4_; have NB272_277 := n5_; have NB277_272 := n6_; clear n0_ n1_ n2_ n3_ n4_ n5_ n6_; clear hb hbox hg; have hnb30 := NB277_272.out; have hnc30 := NB272_277.out; have hcz31_0 : w29.cell? ⟨gb277, 0, none⟩ = some (.int .i64 0) := (blk_cell BK277.out 0).trans rfl; have hcz31_1 : w29.cell? ⟨gb277, 1, none⟩ = some (.int .i64 0) := (blk_cell BK277.out 1).trans rfl; have hfz31_0 := blk_frozen BK277.out 0; have hfz31_1 := blk_frozen BK277.out 1) | ((with_reducible refine gate_callee (f := 18) rfl ?_); refine goesL_ (some 30) rfl rfl Try.func18 (by kernel_rfl) rfl #[.slice A0 l0.length c0] rfl (by (try simp only [List.map_toArray, List.map_cons, List.map_nil]); first | done | rfl | (simp only [List.length_drop, List.length_take]; rfl)) ?_; (with_reducible refine (telemetry_CheckParameters.calls k _ _ l0 t278 _ ?side1 ?side2 A6.out).mono ?_); (case side1 => exact Kd.C_below HR0.out (by repeat (first | (with_reducible first | exact HB.out | apply below_alloc | apply pw_below_drewN | apply below_drew1 | refine below_set ?_ GE272.out | refine below_set ?_ GE277.out) | exact HB.out))); (case side2 => exact HC0.out); rintro e w32 ⟨rfl, hb⟩; refine ⟨_, rfl, ?_⟩; have n0_ := Aside0.mk (blk_below (g := gb272) (o := .cells #[.int .i64 t268, .int .i64 t269] 24 (0, 0)) (by (with_reducible repeat (first | refine blk_drewN ?_ _ | refine blk_drew ?_ | refine blk_alloc ?_ _)); refine blk_far ?_ NB272_277.out _; (with_reducible repeat (first | refine blk_drewN ?_ _ | refine blk_drew ?_ | refine blk_alloc ?_ _)); refine blk_far ?_ NB272_277.out _; (with_reducible repeat (first | refine blk_drewN ?_ _ | refine blk_drew ?_ | refine blk_alloc ?_ _)); exact BK272.out) hb); have n1_ := Aside0.mk (blk_below (g := gb277) (o := .cells #[.int .i64 t273, .int .i64 t274] 24 (0, 0)) (by (with_reducible repeat (first | refine blk_drewN ?_ _ | refine blk_drew ?_ | refine blk_alloc ?_ _)); refine blk_put (cs := #[.int .i64 t273, .int .i64 0]) ?_ 1 _ rfl; (with_reducible repeat (first | refine blk_drewN ?_ _ | refine blk_drew ?_ | refine blk_alloc ?_ _)); refine blk_put (cs := #[.int .i64 0, .int .i64 0]) ?_ 0 _ rfl; (with_reducible repeat (first | refine blk_drewN ?_ _ | refine blk_drew ?_ | refine blk_alloc ?_ _)); exact BK277.out) hb); have n2_ := Aside0.mk (below_step (by repeat (first | (with_reducible first | exact HB.out | apply below_alloc | apply pw_below_drewN | apply below_drew1 | refine below_set ?_ GE272.out | refine below_set ?_ GE277.out) | exact HB.out)) hb); clear BK272; clear BK277; clear HB; have BK272 := n0_; have BK277 := n1_; have HB := n2_; clear n0_ n1_ n2_; (try clear hb); (try clear hb2); (try clear hk); (try clear hi)) | ((with_reducible refine gate_callee (f := 19) rfl ?_); refine goesL_ (some 32) rfl rfl Try.func19 (by kernel_rfl) rfl #[.slice A0 l0.length c0] rfl (by (try simp only [List.map_toArray, List.map_cons, List.map_nil]); first | done | rfl | (simp only [List.length_drop, List.length_take]; rfl)) ?_; (with_reducible refine (perigeeref7_CheckParameters.calls k _ _ l0 t279 _ ?side1 ?side2 A7.out).mono ?_); (case side1 => repeat (first | exact (Kd.C_below HR0.out HB.out) | (with_reducible refine Kd.C_alloc ?_ _) | (with_reducible refine Kd.C_drewN ?_ _) | (with_reducible refine Kd.C_drew ?_))); (case side2 => exact HC0.out); rintro e w33 ⟨rfl, hb⟩; refine ⟨_, rfl, ?_⟩; have n0_ := Aside0.mk (blk_below (g := gb272) (o := .cells #[.int .i64 t268, .int .i64 t269] 24 (0, 0)) (by (with_reducible repeat (first | refine blk_drewN ?_ _ | refine blk_drew ?_ | refine blk_alloc ?_ _)); exact BK272.out) hb); have n1_ := Aside0.mk (blk_below (g := gb277) (o := .cells #[.int .i64 t273, .int .i64 t274] 24 (0, 0)) (by (with_reducible repeat (first | refine blk_drewN ?_ _ | refine blk_drew ?_ | refine blk_alloc ?_ _)); exact BK277.out) hb); have n2_ := Aside0.mk (below_step (by repeat (first | (with_reducible first | exact HB.out | apply below_alloc | apply pw_below_drewN | apply below_drew1 | refine below_set ?_ GE272.out | refine below_set ?_ GE277.out) | exact HB.out)) hb); clear BK272; clear BK277; clear HB; have BK272 := n0_; have BK277 := n1_; have HB := n2_; clear n0_ n1_ n2_; (try clear hb); (try clear hb2); (try clear hk); (try clear hi); have hcz34_0 : w33.cell? ⟨gb272, 0, none⟩ = some (.int .i64 t268) := (blk_cell BK272.out 0).trans rfl; have hcz34_1 : w33.cell? ⟨gb272, 1, none⟩ = some (.int .i64 t269) := (blk_cell BK272.out 1).trans rfl; have hfz34_0 := blk_frozen BK272.out 0; have hfz34_1 := blk_frozen BK272.out 1; have hcz35_0 : w33.cell? ⟨gb277, 0, none⟩ = some (.int .i64 t273) := (blk_cell BK277.out 0).trans rfl; have hcz35_1 : w33.cell? ⟨gb277, 1, none⟩ = some (.int .i64 t274) := (blk_cell BK277.out 1).trans rfl; have hfz35_0 := blk_frozen BK277.out 0; have hfz35_1 := blk_frozen BK277.out 1))
     go_ret
     exact ⟨by first | rfl | (simp [errW_none, errW_some] <;> rfl) | (simp [*, errW_none, errW_some] <;> rfl), by repeat (first | (with_reducible first | exact HB.out | apply below_alloc | apply pw_below_drewN | apply below_drew1 | refine below_set ?_ GE272.out | refine below_set ?_ GE277.out) | exact HB.out)⟩
   ·rw [if_neg c10] at H
    have c10b0 : (t268 == t273 && (t269 == t274)) = false := by simpa using c10
    (try (have c10b1 : decide (t268 = t273 && (t269 == t274)) = false := by simpa using c10))
    (try (have c10b2 : (t268 == t273 && (t269 == t274)) = false := by simpa using c10))
    (try (have c10b3 : ¬ (t268 = t273 && (t269 == t274)) := by simpa using c10))
    clear c10
    obtain rfl := Option.some.inj H
    go_enter Try.func3, Try.ntmps3
    go_wp2_with (first | ((with_reducible refine gate_callee (f := 16) rfl ?_); refine goesL_ (some 17) rfl rfl Try.func16 (by kernel_rfl) rfl #[.slice A0 l0.length c0, .string a1, .int .i64 a2] rfl (by (try simp only [List.map_toArray, List.map_cons, List.map_nil]); first | done | rfl | (simp only [List.length_drop, List.length_take]; rfl)) ?_; (with_reducible refine (telemetry_Value.calls k _ _ l0 a1 a2 t268 t269 t270 t271 _ ?side1 ?side2 A4.out).mono ?_); (case side1 => repeat (first | exact HR0.out | (with_reducible refine Kd.C_alloc ?_ _) | (with_reducible refine Kd.C_drewN ?_ _) | (with_reducible refine Kd.C_drew ?_))); (case side2 => exact HC0.out); rintro e w36 ⟨rfl, hb⟩; refine ⟨_, rfl, ?_⟩; have n0_ := Aside0.mk (below_step (by repeat (first | (with_reducible first | exact HB.out | apply below_alloc | apply pw_below_drewN | apply below_drew1) | exact HB.out)) hb); clear HB; have HB := n0_; clear n0_; (try clear hb); (try clear hb2); (try clear hk); (try clear hi)) | ((with_reducible refine gate_dst (N := 7) rfl ?_); refine box_event ?hg (N := 7) ?hd (cs := #[.int .i64 0, .int .i64 0]) (t := 24) ?hr ?_; (case hd => rfl); (case hg => rfl); (case hr => first | (go_simp; done) | (go_simp; rfl)); intro gb272 hg w37 hbox hb; have n0_ := Aside0.mk (below_step (by repeat (first | (with_reducible first | exact HB.out | apply below_alloc | apply pw_below_drewN | apply below_drew1) | exact HB.out)) hb); have n1_ := Aside0.mk (hbox); have n2_ := Aside0.mk ((by rw [hg]; exact (below_size (by repeat (first | (with_reducible first | exact HB.out | apply below_alloc | apply pw_below_drewN | apply below_drew1) | exact HB.out))) : w.heap.size ≤ gb272)); have n3_ := Aside0.mk ((by rw [hg]; exact (below_size (by repeat (first | (with_reducible first | exact HB.out | apply below_alloc | apply pw_below_drewN | apply below_drew1) | exact HB.out))) : w.heap.size ≤ gb272)); clear HB; have HB := n0_; have BK272 := n1_; have GW272 := n2_; have GE272 := n3_; clear n0_ n1_ n2_ n3_; clear hb hbox hg; have hcz38_0 : w37.cell? ⟨gb272, 0, none⟩ = some (.int .i64 0) := (blk_cell BK272.out 0).trans rfl; have hcz38_1 : w37.cell? ⟨gb272, 1, none⟩ = some (.int .i64 0) := (blk_cell BK272.out 1).trans rfl; have hfz38_0 := blk_frozen BK272.out 0; have hfz38_1 := blk_frozen BK272.out 1) | ((with_reducible refine gate_callee (f := 17) rfl ?_); refine goesL_ (some 25) rfl rfl Try.func17 (by kernel_rfl) rfl #[.slice A0 l0.length c0, .string a1, .int .i64 a2] rfl (by (try simp only [List.map_toArray, List.map_cons, List.map_nil]); first | done | rfl | (simp only [List.length_drop, List.length_take]; rfl)) ?_; (with_reducible refine (perigeeref7_Value.calls k _ _ l0 a1 a2 t273 t274 t275 t276 _ ?side1 ?side2 A5.out).mono ?_); (case side1 => exact Kd.C_below HR0.out (by repeat (first | (with_reducible first | exact HB.out | apply below_alloc | apply pw_below_drewN | apply below_drew1 | refine below_set ?_ GE272.out) | exact HB.out))); (case side2 => exact HC0.out); rintro e w39 ⟨rfl, hb⟩; refine ⟨_, rfl, ?_⟩; have n0_ := Aside0.mk (blk_below (g := gb272) (o := .cells #[.int .i64 t268, .int .i64 t269] 24 (0, 0)) (by (with_reducible repeat (first | refine blk_drewN ?_ _ | refine blk_drew ?_ | refine blk_alloc ?_ _)); refine blk_put (cs := #[.int .i64 t268, .int .i64 0]) ?_ 1 _ rfl; (with_reducible repeat (first | refine blk_drewN ?_ _ | refine blk_drew ?_ | refine blk_alloc ?_ _)); refine blk_put (cs := #[.int .i64 0, .int .i64 0]) ?_ 0 _ rfl; (with_reducible repeat (first | refine blk_drewN ?_ _ | refine blk_drew ?_ | refine blk_alloc ?_ _)); exact BK272.out) hb); have n1_ := Aside0.mk (below_step (by repeat (first | (with_reducible first | exact HB.out | apply below_alloc | apply pw_below_drewN | apply below_drew1 | refine below_set ?_ GE272.out) | exact HB.out)) hb); clear BK272; clear HB; have BK272 := n0_; have HB := n1_; clear n0_ n1_; (try clear hb); (try clear hb2); (try clear hk); (try clear hi)) | ((with_reducible refine gate_dst (N := 10) rfl ?_); refine box_event ?hg (N := 10) ?hd (cs := #[.int .i64 0, .int .i64 0]) (t := 24) ?hr ?_; (case hd => rfl); (case hg => rfl); (case hr => first | (go_simp; done) | (go_simp; rfl)); intro gb277 hg w40 hbox hb; have n0_ := Aside0.mk (blk_below (g := gb272) (o := .cells #[.int .i64 t268, .int .i64 t269] 24 (0, 0)) (by (with_reducible repeat (first | refine blk_drewN ?_ _ | refine blk_drew ?_ | refine blk_alloc ?_ _)); exact BK272.out) hb); have n1_ := Aside0.mk (below_step (by repeat (first | (with_reducible first | exact HB.out | apply below_alloc | apply pw_below_drewN | apply below_drew1 | refine below_set ?_ GE272.out) | exact HB.out)) hb); have n2_ := Aside0.mk (hbox); have n3_ := Aside0.mk ((by rw [hg]; exact (below_size (by repeat (first | (with_reducible first | exact HB.out | apply below_alloc | apply pw_below_drewN | apply below_drew1 | refine below_set ?_ GE272.out) | exact HB.out))) : w.heap.size ≤ gb277)); have n4_ := Aside0.mk ((by rw [hg]; exact (below_size (by repeat (first | (with_reducible first | exact HB.out | apply below_alloc | apply pw_below_drewN | apply below_drew1 | refine below_set ?_ GE272.out) | exact HB.out))) : w.heap.size ≤ gb277)); have n5_ := Aside0.mk ((by rw [hg]; exact Nat.ne_of_lt (blk_lt (g := gb272) (o := .cells #[.int .i64 t268, .int .i64 t269] 24 (0, 0)) (by (with_reducible repeat (first | refine blk_drewN ?_ _ | refine blk_drew ?_ | refine blk_alloc ?_ _)); exact BK272.out)) : gb272 ≠ gb277)); have n6_ := Aside0.mk ((by rw [hg]; exact Nat.ne_of_gt (blk_lt (g := gb272) (o := .cells #[.int .i64 t268, .int .i64 t269] 24 (0, 0)) (by (with_reducible repeat (first | refine blk_drewN ?_ _ | refine blk_drew ?_ | refine blk_alloc ?_ _)); exact BK272.out)) : gb277 ≠ gb272)); clear BK272; clear HB; have BK272 := n0_; have HB := n1_; have BK277 := n2_; have GW277 := n3_; have GE277 := n4_; have NB272_277 := n5_; have NB277_272 := n6_; clear n0_ n1_ n2_ n3_ n4_ n5_ n6_; clear hb hbox hg; have hnb41 := NB277_272.out; have hnc41 := NB272_277.out; have hcz42_0 : w40.cell? ⟨gb277, 0, none⟩ = some (.int .i64 0) := (blk_cell BK277.out 0).trans rfl; have hcz42_1 : w40.cell? ⟨gb277, 1, none⟩ = some (.int .i64 0) := (blk_cell BK277.out 1).trans rfl; have hfz42_0 := blk_frozen BK277.out 0; have hfz42_1 := blk_frozen BK277.out 1) | ((with_reducible refine gate_callee (f := 18) rfl ?_); refine goesL_ (some 30) rfl rfl Try.func18 (by kernel_rfl) rfl #[.slice A0 l0.length c0] rfl (by (try simp only [List.map_toArray, List.map_cons, List.map_nil]); first | done | rfl | (simp only [List.length_drop, List.length_take]; rfl)) ?_; (with_reducible refine (telemetry_CheckParameters.calls k _ _ l0 t278 _ ?side1 ?side2 A6.out).mono ?_); (case side1 => exact Kd.C_below HR0.out (by repeat (first | (with_reducible first | exact HB.out | apply below_alloc | apply pw_below_drewN | apply below_drew1 | refine below_set ?_ GE272.out | refine below_set ?_ GE277.out) | exact HB.out))); (case side2 => exact HC0.out); rintro e w43 ⟨rfl, hb⟩; refine ⟨_, rfl, ?_⟩; have n0_ := Aside0.mk (blk_below (g := gb272) (o := .cells #[.int .i64 t268, .int .i64 t269] 24 (0, 0)) (by (with_reducible repeat (first | refine blk_drewN ?_ _ | refine blk_drew ?_ | refine blk_alloc ?_ _)); refine blk_far ?_ NB272_277.out _; (with_reducible repeat (first | refine blk_drewN ?_ _ | refine blk_drew ?_ | refine blk_alloc ?_ _)); refine blk_far ?_ NB272_277.out _; (with_reducible repeat (first | refine blk_drewN ?_ _ | refine blk_drew ?_ | refine blk_alloc ?_ _)); exact BK272.out) hb); have n1_ := Aside0.mk (blk_below (g := gb277) (o := .cells #[.int .i64 t273, .int .i64 t274] 24 (0, 0)) (by (with_reducible repeat (first | refine blk_drewN ?_ _ | refine blk_drew ?_ | refine blk_alloc ?_ _)); refine blk_put (cs := #[.int .i64 t273, .int .i64 0]) ?_ 1 _ rfl; (with_reducible repeat (first | refine blk_drewN ?_ _ | refine blk_drew ?_ | refine blk_alloc ?_ _)); refine blk_put (cs := #[.int .i64 0, .int .i64 0]) ?_ 0 _ rfl; (with_reducible repeat (first | refine blk_drewN ?_ _ | refine blk_drew ?_ | refine blk_alloc ?_ _)); exact BK277.out) hb); have n2_ := Aside0.mk (below_step (by repeat (first | (with_reducible first | exact HB.out | apply below_alloc | apply pw_below_drewN | apply below_drew1 | refine below_set ?_ GE272.out | refine below_set ?_ GE277.out) | exact HB.out)) hb); clear BK272; clear BK277; clear HB; have BK272 := n0_; have BK277 := n1_; have HB := n2_; clear n0_ n1_ n2_; (try clear hb); (try clear hb2); (try clear hk); (try clear hi)) | ((with_reducible refine gate_callee (f := 19) rfl ?_); refine goesL_ (some 32) rfl rfl Try.func19 (by kernel_rfl) rfl #[.slice A0 l0.length c0] rfl (by (try simp only [List.map_toArray, List.map_cons, List.map_nil]); first | done | rfl | (simp only [List.length_drop, List.length_take]; rfl)) ?_; (with_reducible refine (perigeeref7_CheckParameters.calls k _ _ l0 t279 _ ?side1 ?side2 A7.out).mono ?_); (case side1 => repeat (first | exact (Kd.C_below HR0.out HB.out) | (with_reducible refine Kd.C_alloc ?_ _) | (with_reducible refine Kd.C_drewN ?_ _) | (with_reducible refine Kd.C_drew ?_))); (case side2 => exact HC0.out); rintro e w44 ⟨rfl, hb⟩; refine ⟨_, rfl, ?_⟩; have n0_ := Aside0.mk (blk_below (g := gb272) (o := .cells #[.int .i64 t268, .int .i64 t269] 24 (0, 0)) (by (with_reducible repeat (first | refine blk_drewN ?_ _ | refine blk_drew ?_ | refine blk_alloc ?_ _)); exact BK272.out) hb); have n1_ := Aside0.mk (blk_below (g := gb277) (o := .cells #[.int .i64 t273, .int .i64 t274] 24 (0, 0)) (by (with_reducible repeat (first | refine blk_drewN ?_ _ | refine blk_drew ?_ | refine blk_alloc ?_ _)); exact BK277.out) hb); have n2_ := Aside0.mk (below_step (by repeat (first | (with_reducible first | exact HB.out | apply below_alloc | apply pw_below_drewN | apply below_drew1 | refine below_set ?_ GE272.out | refine below_set ?_ GE277.out) | exact HB.out)) hb); clear BK272; clear BK277; clear HB; have BK272 := n0_; have BK277 := n1_; have HB := n2_; clear n0_ n1_ n2_; (try clear hb); (try clear hb2); (try clear hk); (try clear hi); have hcz45_0 : w44.cell? ⟨gb272, 0, none⟩ = some (.int .i64 t268) := (blk_cell BK272.out 0).trans rfl; have hcz45_1 : w44.cell? ⟨gb272, 1, none⟩ = some (.int .i64 t269) := (blk_cell BK272.out 1).trans rfl; have hfz45_0 := blk_frozen BK272.out 0; have hfz45_1 := blk_frozen BK272.out 1; have hcz46_0 : w44.cell? ⟨gb277, 0, none⟩ = some (.int .i64 t273) := (blk_cell BK277.out 0).trans rfl; have hcz46_1 : w44.cell? ⟨gb277, 1, none⟩ = some (.int .i64 t274) := (blk_cell BK277.out 1).trans rfl; have hfz46_0 := blk_frozen BK277.out 0; have hfz46_1 := blk_frozen BK277.out 1))
    go_ret
    exact ⟨by first | rfl | (simp [errW_none, errW_some] <;> rfl) | (simp [*, errW_none, errW_some] <;> rfl), by repeat (first | (with_reducible first | exact HB.out | apply below_alloc | apply pw_below_drewN | apply below_drew1 | refine below_set ?_ GE272.out | refine below_set ?_ GE277.out) | exact HB.out)⟩
  ·rw [if_neg c9] at H
   have c9b0 : (t271 == t276) = false := beq_eq_false_iff_ne.mpr c9
   have c9b1 : (t271 != t276) = true := bne_iff_ne.mpr c9
   obtain rfl := Option.some.inj H
   go_enter Try.func3, Try.ntmps3
   go_wp2_with (first | ((with_reducible refine gate_callee (f := 16) rfl ?_); refine goesL_ (some 17) rfl rfl Try.func16 (by kernel_rfl) rfl #[.slice A0 l0.length c0, .string a1, .int .i64 a2] rfl (by (try simp only [List.map_toArray, List.map_cons, List.map_nil]); first | done | rfl | (simp only [List.length_drop, List.length_take]; rfl)) ?_; (with_reducible refine (telemetry_Value.calls k _ _ l0 a1 a2 t268 t269 t270 t271 _ ?side1 ?side2 A4.out).mono ?_); (case side1 => repeat (first | exact HR0.out | (with_reducible refine Kd.C_alloc ?_ _) | (with_reducible refine Kd.C_drewN ?_ _) | (with_reducible refine Kd.C_drew ?_))); (case side2 => exact HC0.out); rintro e w47 ⟨rfl, hb⟩; refine ⟨_, rfl, ?_⟩; have n0_ := Aside0.mk (below_step (by repeat (first | (with_reducible first | exact HB.out | apply below_alloc | apply pw_below_drewN | apply below_drew1) | exact HB.out)) hb); clear HB; have HB := n0_; clear n0_; (try clear hb); (try clear hb2); (try clear hk); (try clear hi)) | ((with_reducible refine gate_dst (N := 7) rfl ?_); refine box_event ?hg (N := 7) ?hd (cs := #[.int .i64 0, .int .i64 0]) (t := 24) ?hr ?_; (case hd => rfl); (case hg => rfl); (case hr => first | (go_simp; done) | (go_simp; rfl)); intro gb272 hg w48 hbox hb; have n0_ := Aside0.mk (below_step (by repeat (first | (with_reducible first | exact HB.out | apply below_alloc | apply pw_below_drewN | apply below_drew1) | exact HB.out)) hb); have n1_ := Aside0.mk (hbox); have n2_ := Aside0.mk ((by rw [hg]; exact (below_size (by repeat (first | (with_reducible first | exact HB.out | apply below_alloc | apply pw_below_drewN | apply below_drew1) | exact HB.out))) : w.heap.size ≤ gb272)); have n3_ := Aside0.mk ((by rw [hg]; exact (below_size (by repeat (first | (with_reducible first | exact HB.out | apply below_alloc | apply pw_below_drewN | apply below_drew1) | exact HB.out))) : w.heap.size ≤ gb272)); clear HB; have HB := n0_; have BK272 := n1_; have GW272 := n2_; have GE272 := n3_; clear n0_ n1_ n2_ n3_; clear hb hbox hg; have hcz49_0 : w48.cell? ⟨gb272, 0, none⟩ = some (.int .i64 0) := (blk_cell BK272.out 0).trans rfl; have hcz49_1 : w48.cell? ⟨gb272, 1, none⟩ = some (.int .i64 0) := (blk_cell BK272.out 1).trans rfl; have hfz49_0 := blk_frozen BK272.out 0; have hfz49_1 := blk_frozen BK272.out 1) | ((with_reducible refine gate_callee (f := 17) rfl ?_); refine goesL_ (some 25) rfl rfl Try.func17 (by kernel_rfl) rfl #[.slice A0 l0.length c0, .string a1, .int .i64 a2] rfl (by (try simp only [List.map_toArray, List.map_cons, List.map_nil]); first | done | rfl | (simp only [List.length_drop, List.length_take]; rfl)) ?_; (with_reducible refine (perigeeref7_Value.calls k _ _ l0 a1 a2 t273 t274 t275 t276 _ ?side1 ?side2 A5.out).mono ?_); (case side1 => exact Kd.C_below HR0.out (by repeat (first | (with_reducible first | exact HB.out | apply below_alloc | apply pw_below_drewN | apply below_drew1 | refine below_set ?_ GE272.out) | exact HB.out))); (case side2 => exact HC0.out); rintro e w50 ⟨rfl, hb⟩; refine ⟨_, rfl, ?_⟩; have n0_ := Aside0.mk (blk_below (g := gb272) (o := .cells #[.int .i64 t268, .int .i64 t269] 24 (0, 0)) (by (with_reducible repeat (first | refine blk_drewN ?_ _ | refine blk_drew ?_ | refine blk_alloc ?_ _)); refine blk_put (cs := #[.int .i64 t268, .int .i64 0]) ?_ 1 _ rfl; (with_reducible repeat (first | refine blk_drewN ?_ _ | refine blk_drew ?_ | refine blk_alloc ?_ _)); refine blk_put (cs := #[.int .i64 0, .int .i64 0]) ?_ 0 _ rfl; (with_reducible repeat (first | refine blk_drewN ?_ _ | refine blk_drew ?_ | refine blk_alloc ?_ _)); exact BK272.out) hb); have n1_ := Aside0.mk (below_step (by repeat (first | (with_reducible first | exact HB.out | apply below_alloc | apply pw_below_drewN | apply below_drew1 | refine below_set ?_ GE272.out) | exact HB.out)) hb); clear BK272; clear HB; have BK272 := n0_; have HB := n1_; clear n0_ n1_; (try clear hb); (try clear hb2); (try clear hk); (try clear hi)) | ((with_reducible refine gate_dst (N := 10) rfl ?_); refine box_event ?hg (N := 10) ?hd (cs := #[.int .i64 0, .int .i64 0]) (t := 24) ?hr ?_; (case hd => rfl); (case hg => rfl); (case hr => first | (go_simp; done) | (go_simp; rfl)); intro gb277 hg w51 hbox hb; have n0_ := Aside0.mk (blk_below (g := gb272) (o := .cells #[.int .i64 t268, .int .i64 t269] 24 (0, 0)) (by (with_reducible repeat (first | refine blk_drewN ?_ _ | refine blk_drew ?_ | refine blk_alloc ?_ _)); exact BK272.out) hb); have n1_ := Aside0.mk (below_step (by repeat (first | (with_reducible first | exact HB.out | apply below_alloc | apply pw_below_drewN | apply below_drew1 | refine below_set ?_ GE272.out) | exact HB.out)) hb); have n2_ := Aside0.mk (hbox); have n3_ := Aside0.mk ((by rw [hg]; exact (below_size (by repeat (first | (with_reducible first | exact HB.out | apply below_alloc | apply pw_below_drewN | apply below_drew1 | refine below_set ?_ GE272.out) | exact HB.out))) : w.heap.size ≤ gb277)); have n4_ := Aside0.mk ((by rw [hg]; exact (below_size (by repeat (first | (with_reducible first | exact HB.out | apply below_alloc | apply pw_below_drewN | apply below_drew1 | refine below_set ?_ GE272.out) | exact HB.out))) : w.heap.size ≤ gb277)); have n5_ := Aside0.mk ((by rw [hg]; exact Nat.ne_of_lt (blk_lt (g := gb272) (o := .cells #[.int .i64 t268, .int .i64 t269] 24 (0, 0)) (by (with_reducible repeat (first | refine blk_drewN ?_ _ | refine blk_drew ?_ | refine blk_alloc ?_ _)); exact BK272.out)) : gb272 ≠ gb277)); have n6_ := Aside0.mk ((by rw [hg]; exact Nat.ne_of_gt (blk_lt (g := gb272) (o := .cells #[.int .i64 t268, .int .i64 t269] 24 (0, 0)) (by (with_reducible repeat (first | refine blk_drewN ?_ _ | refine blk_drew ?_ | refine blk_alloc ?_ _)); exact BK272.out)) : gb277 ≠ gb272)); clear BK272; clear HB; have BK272 := n0_; have HB := n1_; have BK277 := n2_; have GW277 := n3_; have GE277 := n4_; have NB272_277 := n5_; have NB277_272 := n6_; clear n0_ n1_ n2_ n3_ n4_ n5_ n6_; clear hb hbox hg; have hnb52 := NB277_272.out; have hnc52 := NB272_277.out; have hcz53_0 : w51.cell? ⟨gb277, 0, none⟩ = some (.int .i64 0) := (blk_cell BK277.out 0).trans rfl; have hcz53_1 : w51.cell? ⟨gb277, 1, none⟩ = some (.int .i64 0) := (blk_cell BK277.out 1).trans rfl; have hfz53_0 := blk_frozen BK277.out 0; have hfz53_1 := blk_frozen BK277.out 1) | ((with_reducible refine gate_callee (f := 18) rfl ?_); refine goesL_ (some 30) rfl rfl Try.func18 (by kernel_rfl) rfl #[.slice A0 l0.length c0] rfl (by (try simp only [List.map_toArray, List.map_cons, List.map_nil]); first | done | rfl | (simp only [List.length_drop, List.length_take]; rfl)) ?_; (with_reducible refine (telemetry_CheckParameters.calls k _ _ l0 t278 _ ?side1 ?side2 A6.out).mono ?_); (case side1 => exact Kd.C_below HR0.out (by repeat (first | (with_reducible first | exact HB.out | apply below_alloc | apply pw_below_drewN | apply below_drew1 | refine below_set ?_ GE272.out | refine below_set ?_ GE277.out) | exact HB.out))); (case side2 => exact HC0.out); rintro e w54 ⟨rfl, hb⟩; refine ⟨_, rfl, ?_⟩; have n0_ := Aside0.mk (blk_below (g := gb272) (o := .cells #[.int .i64 t268, .int .i64 t269] 24 (0, 0)) (by (with_reducible repeat (first | refine blk_drewN ?_ _ | refine blk_drew ?_ | refine blk_alloc ?_ _)); refine blk_far ?_ NB272_277.out _; (with_reducible repeat (first | refine blk_drewN ?_ _ | refine blk_drew ?_ | refine blk_alloc ?_ _)); refine blk_far ?_ NB272_277.out _; (with_reducible repeat (first | refine blk_drewN ?_ _ | refine blk_drew ?_ | refine blk_alloc ?_ _)); exact BK272.out) hb); have n1_ := Aside0.mk (blk_below (g := gb277) (o := .cells #[.int .i64 t273, .int .i64 t274] 24 (0, 0)) (by (with_reducible repeat (first | refine blk_drewN ?_ _ | refine blk_drew ?_ | refine blk_alloc ?_ _)); refine blk_put (cs := #[.int .i64 t273, .int .i64 0]) ?_ 1 _ rfl; (with_reducible repeat (first | refine blk_drewN ?_ _ | refine blk_drew ?_ | refine blk_alloc ?_ _)); refine blk_put (cs := #[.int .i64 0, .int .i64 0]) ?_ 0 _ rfl; (with_reducible repeat (first | refine blk_drewN ?_ _ | refine blk_drew ?_ | refine blk_alloc ?_ _)); exact BK277.out) hb); have n2_ := Aside0.mk (below_step (by repeat (first | (with_reducible first | exact HB.out | apply below_alloc | apply pw_below_drewN | apply below_drew1 | refine below_set ?_ GE272.out | refine below_set ?_ GE277.out) | exact HB.out)) hb); clear BK272; clear BK277; clear HB; have BK272 := n0_; have BK277 := n1_; have HB := n2_; clear n0_ n1_ n2_; (try clear hb); (try clear hb2); (try clear hk); (try clear hi)) | ((with_reducible refine gate_callee (f := 19) rfl ?_); refine goesL_ (some 32) rfl rfl Try.func19 (by kernel_rfl) rfl #[.slice A0 l0.length c0] rfl (by (try simp only [List.map_toArray, List.map_cons, List.map_nil]); first | done | rfl | (simp only [List.length_drop, List.length_take]; rfl)) ?_; (with_reducible refine (perigeeref7_CheckParameters.calls k _ _ l0 t279 _ ?side1 ?side2 A7.out).mono ?_); (case side1 => repeat (first | exact (Kd.C_below HR0.out HB.out) | (with_reducible refine Kd.C_alloc ?_ _) | (with_reducible refine Kd.C_drewN ?_ _) | (with_reducible refine Kd.C_drew ?_))); (case side2 => exact HC0.out); rintro e w55 ⟨rfl, hb⟩; refine ⟨_, rfl, ?_⟩; have n0_ := Aside0.mk (blk_below (g := gb272) (o := .cells #[.int .i64 t268, .int .i64 t269] 24 (0, 0)) (by (with_reducible repeat (first | refine blk_drewN ?_ _ | refine blk_drew ?_ | refine blk_alloc ?_ _)); exact BK272.out) hb); have n1_ := Aside0.mk (blk_below (g := gb277) (o := .cells #[.int .i64 t273, .int .i64 t274] 24 (0, 0)) (by (with_reducible repeat (first | refine blk_drewN ?_ _ | refine blk_drew ?_ | refine blk_alloc ?_ _)); exact BK277.out) hb); have n2_ := Aside0.mk (below_step (by repeat (first | (with_reducible first | exact HB.out | apply below_alloc | apply pw_below_drewN | apply below_drew1 | refine below_set ?_ GE272.out | refine below_set ?_ GE277.out) | exact HB.out)) hb); clear BK272; clear BK277; clear HB; have BK272 := n0_; have BK277 := n1_; have HB := n2_; clear n0_ n1_ n2_; (try clear hb); (try clear hb2); (try clear hk); (try clear hi)))
   go_ret
   exact ⟨by first | rfl | (simp [errW_none, errW_some] <;> rfl) | (simp [*, errW_none, errW_some] <;> rfl), by repeat (first | (with_reducible first | exact HB.out | apply below_alloc | apply pw_below_drewN | apply below_drew1 | refine below_set ?_ GE272.out | refine below_set ?_ GE277.out) | exact HB.out)⟩
 ·rw [if_neg c8] at H
  have c8b0 : (t278 == t279) = false := beq_eq_false_iff_ne.mpr c8
  have c8b1 : (t278 != t279) = true := bne_iff_ne.mpr c8
  obtain rfl := Option.some.inj H
  go_enter Try.func3, Try.ntmps3
  go_wp2_with (first | ((with_reducible refine gate_callee (f := 16) rfl ?_); refine goesL_ (some 17) rfl rfl Try.func16 (by kernel_rfl) rfl #[.slice A0 l0.length c0, .string a1, .int .i64 a2] rfl (by (try simp only [List.map_toArray, List.map_cons, List.map_nil]); first | done | rfl | (simp only [List.length_drop, List.length_take]; rfl)) ?_; (with_reducible refine (telemetry_Value.calls k _ _ l0 a1 a2 t268 t269 t270 t271 _ ?side1 ?side2 A4.out).mono ?_); (case side1 => repeat (first | exact HR0.out | (with_reducible refine Kd.C_alloc ?_ _) | (with_reducible refine Kd.C_drewN ?_ _) | (with_reducible refine Kd.C_drew ?_))); (case side2 => exact HC0.out); rintro e w56 ⟨rfl, hb⟩; refine ⟨_, rfl, ?_⟩; have n0_ := Aside0.mk (below_step (by repeat (first | (with_reducible first | exact HB.out | apply below_alloc | apply pw_below_drewN | apply below_drew1) | exact HB.out)) hb); clear HB; have HB := n0_; clear n0_; (try clear hb); (try clear hb2); (try clear hk); (try clear hi)) | ((with_reducible refine gate_dst (N := 7) rfl ?_); refine box_event ?hg (N := 7) ?hd (cs := #[.int .i64 0, .int .i64 0]) (t := 24) ?hr ?_; (case hd => rfl); (case hg => rfl); (case hr => first | (go_simp; done) | (go_simp; rfl)); intro gb272 hg w57 hbox hb; have n0_ := Aside0.mk (below_step (by repeat (first | (with_reducible first | exact HB.out | apply below_alloc | apply pw_below_drewN | apply below_drew1) | exact HB.out)) hb); have n1_ := Aside0.mk (hbox); have n2_ := Aside0.mk ((by rw [hg]; exact (below_size (by repeat (first | (with_reducible first | exact HB.out | apply below_alloc | apply pw_below_drewN | apply below_drew1) | exact HB.out))) : w.heap.size ≤ gb272)); have n3_ := Aside0.mk ((by rw [hg]; exact (below_size (by repeat (first | (with_reducible first | exact HB.out | apply below_alloc | apply pw_below_drewN | apply below_drew1) | exact HB.out))) : w.heap.size ≤ gb272)); clear HB; have HB := n0_; have BK272 := n1_; have GW272 := n2_; have GE272 := n3_; clear n0_ n1_ n2_ n3_; clear hb hbox hg; have hcz58_0 : w57.cell? ⟨gb272, 0, none⟩ = some (.int .i64 0) := (blk_cell BK272.out 0).trans rfl; have hcz58_1 : w57.cell? ⟨gb272, 1, none⟩ = some (.int .i64 0) := (blk_cell BK272.out 1).trans rfl; have hfz58_0 := blk_frozen BK272.out 0; have hfz58_1 := blk_frozen BK272.out 1) | ((with_reducible refine gate_callee (f := 17) rfl ?_); refine goesL_ (some 25) rfl rfl Try.func17 (by kernel_rfl) rfl #[.slice A0 l0.length c0, .string a1, .int .i64 a2] rfl (by (try simp only [List.map_toArray, List.map_cons, List.map_nil]); first | done | rfl | (simp only [List.length_drop, List.length_take]; rfl)) ?_; (with_reducible refine (perigeeref7_Value.calls k _ _ l0 a1 a2 t273 t274 t275 t276 _ ?side1 ?side2 A5.out).mono ?_); (case side1 => exact Kd.C_below HR0.out (by repeat (first | (with_reducible first | exact HB.out | apply below_alloc | apply pw_below_drewN | apply below_drew1 | refine below_set ?_ GE272.out) | exact HB.out))); (case side2 => exact HC0.out); rintro e w59 ⟨rfl, hb⟩; refine ⟨_, rfl, ?_⟩; have n0_ := Aside0.mk (blk_below (g := gb272) (o := .cells #[.int .i64 t268, .int .i64 t269] 24 (0, 0)) (by (with_reducible repeat (first | refine blk_drewN ?_ _ | refine blk_drew ?_ | refine blk_alloc ?_ _)); refine blk_put (cs := #[.int .i64 t268, .int .i64 0]) ?_ 1 _ rfl; (with_reducible repeat (first | refine blk_drewN ?_ _ | refine blk_drew ?_ | refine blk_alloc ?_ _)); refine blk_put (cs := #[.int .i64 0, .int .i64 0]) ?_ 0 _ rfl; (with_reducible repeat (first | refine blk_drewN ?_ _ | refine blk_drew ?_ | refine blk_alloc ?_ _)); exact BK272.out) hb); have n1_ := Aside0.mk (below_step (by repeat (first | (with_reducible first | exact HB.out | apply below_alloc | apply pw_below_drewN | apply below_drew1 | refine below_set ?_ GE272.out) | exact HB.out)) hb); clear BK272; clear HB; have BK272 := n0_; have HB := n1_; clear n0_ n1_; (try clear hb); (try clear hb2); (try clear hk); (try clear hi)) | ((with_reducible refine gate_dst (N := 10) rfl ?_); refine box_event ?hg (N := 10) ?hd (cs := #[.int .i64 0, .int .i64 0]) (t := 24) ?hr ?_; (case hd => rfl); (case hg => rfl); (case hr => first | (go_simp; done) | (go_simp; rfl)); intro gb277 hg w60 hbox hb; have n0_ := Aside0.mk (blk_below (g := gb272) (o := .cells #[.int .i64 t268, .int .i64 t269] 24 (0, 0)) (by (with_reducible repeat (first | refine blk_drewN ?_ _ | refine blk_drew ?_ | refine blk_alloc ?_ _)); exact BK272.out) hb); have n1_ := Aside0.mk (below_step (by repeat (first | (with_reducible first | exact HB.out | apply below_alloc | apply pw_below_drewN | apply below_drew1 | refine below_set ?_ GE272.out) | exact HB.out)) hb); have n2_ := Aside0.mk (hbox); have n3_ := Aside0.mk ((by rw [hg]; exact (below_size (by repeat (first | (with_reducible first | exact HB.out | apply below_alloc | apply pw_below_drewN | apply below_drew1 | refine below_set ?_ GE272.out) | exact HB.out))) : w.heap.size ≤ gb277)); have n4_ := Aside0.mk ((by rw [hg]; exact (below_size (by repeat (first | (with_reducible first | exact HB.out | apply below_alloc | apply pw_below_drewN | apply below_drew1 | refine below_set ?_ GE272.out) | exact HB.out))) : w.heap.size ≤ gb277)); have n5_ := Aside0.mk ((by rw [hg]; exact Nat.ne_of_lt (blk_lt (g := gb272) (o := .cells #[.int .i64 t268, .int .i64 t269] 24 (0, 0)) (by (with_reducible repeat (first | refine blk_drewN ?_ _ | refine blk_drew ?_ | refine blk_alloc ?_ _)); exact BK272.out)) : gb272 ≠ gb277)); have n6_ := Aside0.mk ((by rw [hg]; exact Nat.ne_of_gt (blk_lt (g := gb272) (o := .cells #[.int .i64 t268, .int .i64 t269] 24 (0, 0)) (by (with_reducible repeat (first | refine blk_drewN ?_ _ | refine blk_drew ?_ | refine blk_alloc ?_ _)); exact BK272.out)) : gb277 ≠ gb272)); clear BK272; clear HB; have BK272 := n0_; have HB := n1_; have BK277 := n2_; have GW277 := n3_; have GE277 := n4_; have NB272_277 := n5_; have NB277_272 := n6_; clear n0_ n1_ n2_ n3_ n4_ n5_ n6_; clear hb hbox hg; have hnb61 := NB277_272.out; have hnc61 := NB272_277.out; have hcz62_0 : w60.cell? ⟨gb277, 0, none⟩ = some (.int .i64 0) := (blk_cell BK277.out 0).trans rfl; have hcz62_1 : w60.cell? ⟨gb277, 1, none⟩ = some (.int .i64 0) := (blk_cell BK277.out 1).trans rfl; have hfz62_0 := blk_frozen BK277.out 0; have hfz62_1 := blk_frozen BK277.out 1) | ((with_reducible refine gate_callee (f := 18) rfl ?_); refine goesL_ (some 30) rfl rfl Try.func18 (by kernel_rfl) rfl #[.slice A0 l0.length c0] rfl (by (try simp only [List.map_toArray, List.map_cons, List.map_nil]); first | done | rfl | (simp only [List.length_drop, List.length_take]; rfl)) ?_; (with_reducible refine (telemetry_CheckParameters.calls k _ _ l0 t278 _ ?side1 ?side2 A6.out).mono ?_); (case side1 => exact Kd.C_below HR0.out (by repeat (first | (with_reducible first | exact HB.out | apply below_alloc | apply pw_below_drewN | apply below_drew1 | refine below_set ?_ GE272.out | refine below_set ?_ GE277.out) | exact HB.out))); (case side2 => exact HC0.out); rintro e w63 ⟨rfl, hb⟩; refine ⟨_, rfl, ?_⟩; have n0_ := Aside0.mk (blk_below (g := gb272) (o := .cells #[.int .i64 t268, .int .i64 t269] 24 (0, 0)) (by (with_reducible repeat (first | refine blk_drewN ?_ _ | refine blk_drew ?_ | refine blk_alloc ?_ _)); refine blk_far ?_ NB272_277.out _; (with_reducible repeat (first | refine blk_drewN ?_ _ | refine blk_drew ?_ | refine blk_alloc ?_ _)); refine blk_far ?_ NB272_277.out _; (with_reducible repeat (first | refine blk_drewN ?_ _ | refine blk_drew ?_ | refine blk_alloc ?_ _)); exact BK272.out) hb); have n1_ := Aside0.mk (blk_below (g := gb277) (o := .cells #[.int .i64 t273, .int .i64 t274] 24 (0, 0)) (by (with_reducible repeat (first | refine blk_drewN ?_ _ | refine blk_drew ?_ | refine blk_alloc ?_ _)); refine blk_put (cs := #[.int .i64 t273, .int .i64 0]) ?_ 1 _ rfl; (with_reducible repeat (first | refine blk_drewN ?_ _ | refine blk_drew ?_ | refine blk_alloc ?_ _)); refine blk_put (cs := #[.int .i64 0, .int .i64 0]) ?_ 0 _ rfl; (with_reducible repeat (first | refine blk_drewN ?_ _ | refine blk_drew ?_ | refine blk_alloc ?_ _)); exact BK277.out) hb); have n2_ := Aside0.mk (below_step (by repeat (first | (with_reducible first | exact HB.out | apply below_alloc | apply pw_below_drewN | apply below_drew1 | refine below_set ?_ GE272.out | refine below_set ?_ GE277.out) | exact HB.out)) hb); clear BK272; clear BK277; clear HB; have BK272 := n0_; have BK277 := n1_; have HB := n2_; clear n0_ n1_ n2_; (try clear hb); (try clear hb2); (try clear hk); (try clear hi)) | ((with_reducible refine gate_callee (f := 19) rfl ?_); refine goesL_ (some 32) rfl rfl Try.func19 (by kernel_rfl) rfl #[.slice A0 l0.length c0] rfl (by (try simp only [List.map_toArray, List.map_cons, List.map_nil]); first | done | rfl | (simp only [List.length_drop, List.length_take]; rfl)) ?_; (with_reducible refine (perigeeref7_CheckParameters.calls k _ _ l0 t279 _ ?side1 ?side2 A7.out).mono ?_); (case side1 => repeat (first | exact (Kd.C_below HR0.out HB.out) | (with_reducible refine Kd.C_alloc ?_ _) | (with_reducible refine Kd.C_drewN ?_ _) | (with_reducible refine Kd.C_drew ?_))); (case side2 => exact HC0.out); rintro e w64 ⟨rfl, hb⟩; refine ⟨_, rfl, ?_⟩; have n0_ := Aside0.mk (blk_below (g := gb272) (o := .cells #[.int .i64 t268, .int .i64 t269] 24 (0, 0)) (by (with_reducible repeat (first | refine blk_drewN ?_ _ | refine blk_drew ?_ | refine blk_alloc ?_ _)); exact BK272.out) hb); have n1_ := Aside0.mk (blk_below (g := gb277) (o := .cells #[.int .i64 t273, .int .i64 t274] 24 (0, 0)) (by (with_reducible repeat (first | refine blk_drewN ?_ _ | refine blk_drew ?_ | refine blk_alloc ?_ _)); exact BK277.out) hb); have n2_ := Aside0.mk (below_step (by repeat (first | (with_reducible first | exact HB.out | apply below_alloc | apply pw_below_drewN | apply below_drew1 | refine below_set ?_ GE272.out | refine below_set ?_ GE277.out) | exact HB.out)) hb); clear BK272; clear BK277; clear HB; have BK272 := n0_; have BK277 := n1_; have HB := n2_; clear n0_ n1_ n2_; (try clear hb); (try clear hb2); (try clear hk); (try clear hi)))
  go_ret
  exact ⟨by first | rfl | (simp [errW_none, errW_some] <;> rfl) | (simp [*, errW_none, errW_some] <;> rfl), by repeat (first | (with_reducible first | exact HB.out | apply below_alloc | apply pw_below_drewN | apply below_drew1 | refine below_set ?_ GE272.out | refine below_set ?_ GE277.out) | exact HB.out)⟩

end Go.Proofs.Ytcefbdknoelacaa.P

-- YtcefbdknoelacaaKit
set_option linter.unusedVariables false
set_option linter.unusedSimpArgs false
namespace Go.Proofs.Ytcefbdknoelacaa.Pure
open Go.RowKit Go.Proofs.YtcefbdknoelacaaW.PrintWords Go.Proofs.YtcefbdknoelacaaW.PrintLast Go.Proofs.YtcefbdknoelacaaW.PrintMore

theorem w64 {x : Int} (h : -9223372036854775808 ≤ x) (h' : x ≤ 9223372036854775807) : wrap64 x = x := by unfold wrap64; omega
theorem Ev.yes {α : Type} {c : Prop} {hd : Decidable c} {g g' : Nat → Option α} {r : α} (h : c) (e : Ev g r) : Ev (fun k => if c then g k else g' k) r := by
 simp only [if_pos h]; exact e
theorem Ev.no {α : Type} {c : Prop} {hd : Decidable c} {g g' : Nat → Option α} {r : α} (h : ¬ c) (e : Ev g' r) : Ev (fun k => if c then g k else g' k) r := by
 simp only [if_neg h]; exact e
theorem Ev.some {α : Type} {o : Option α} {r : α} (h : o = some r) : Ev (fun _ => o) r := by subst h; exact Ev.now _

theorem mul_bd {x y A B : Int} (hx : -A ≤ x) (hx' : x ≤ A) (hy : -B ≤ y) (hy' : y ≤ B) : -(A * B) ≤ x * y ∧ x * y ≤ A * B := by
 have hA : 0 ≤ A := by omega
 have hB : 0 ≤ B := by omega
 have h1 : x.natAbs ≤ A.natAbs := by omega
 have h2 : y.natAbs ≤ B.natAbs := by omega
 have h3 : (x * y).natAbs ≤ (A * B).natAbs := by rw [Int.natAbs_mul, Int.natAbs_mul]; exact Nat.mul_le_mul h1 h2
 have h4 : 0 ≤ A * B := Int.mul_nonneg hA hB
 omega

theorem getD_nat {α : Type} (z : α) (l : List α) (i : Nat) (h : i < l.length) : l.getD i z = l[i] := by
 simp [List.getD_eq_getElem?_getD, List.getElem?_eq_getElem h]
theorem getD_mem {α : Type} {z : α} {l : List α} {i : Nat} (h : i < l.length) : l.getD i z ∈ l := by
 rw [getD_nat z l i h]; exact List.getElem_mem h

theorem bl_cons (x y : UInt8) (a b : List UInt8) : Op.bytesLess (x :: a) (y :: b) = (decide (x < y) || (x == y && Op.bytesLess a b)) := by rw [Op.bytesLess]
theorem less_irrefl (a : List UInt8) : Op.bytesLess a a = false := by
 have := Strs.less_total a a
 cases h : Op.bytesLess a a with
 | false => rfl
 | true => rw [h] at this; simp at this
theorem less_ne {a b : List UInt8} (h : Op.bytesLess a b = true) : a ≠ b := by
 intro e
 subst e
 rw [less_irrefl] at h
 cases h
theorem less_tri {a b : List UInt8} (h1 : ¬ Op.bytesLess a b = true) (h2 : a ≠ b) : Op.bytesLess b a = true := by
 have := Strs.less_total a b
 rw [show Op.bytesLess a b = false by simpa using h1, show (a == b) = false by simpa using h2] at this
 simpa using this.symm
theorem less_trans : ∀ {a b c : List UInt8}, Op.bytesLess a b = true → Op.bytesLess b c = true → Op.bytesLess a c = true := by
 intro a
 induction a with
 | nil =>
  intro b c h1 h2
  cases b with
  | nil => simp [Op.bytesLess] at h1
  | cons y b =>
   cases c with
   | nil => simp [Op.bytesLess] at h2
   | cons z c => simp [Op.bytesLess]
 | cons x a ih =>
  intro b c h1 h2
  cases b with
  | nil => simp [Op.bytesLess] at h1
  | cons y b =>
   cases c with
   | nil => simp [Op.bytesLess] at h2
   | cons z c =>
    rw [bl_cons] at h1 h2 ⊢
    simp only [Bool.or_eq_true, Bool.and_eq_true, decide_eq_true_eq, beq_iff_eq] at h1 h2 ⊢
    rcases h1 with h1 | ⟨rfl, h1⟩
    ·rcases h2 with h2 | ⟨rfl, h2⟩
     ·left
      have := UInt8.lt_iff_toNat_lt.1 h1
      have := UInt8.lt_iff_toNat_lt.1 h2
      exact UInt8.lt_iff_toNat_lt.2 (by omega)
     ·exact .inl h1
    ·rcases h2 with h2 | ⟨rfl, h2⟩
     ·exact .inl h2
     ·exact .inr ⟨rfl, ih h1 h2⟩
theorem empty_iff (s : ByteArray) : s.toList = ([] : List UInt8) ↔ s.size = 0 := by
 rw [Lib.toList_data]
 constructor
 ·intro h
  have := congrArg List.length h
  rw [data_length] at this
  simpa using this
 ·intro h
  rw [← data_length] at h
  exact List.eq_nil_of_length_eq_zero h

def Twin {α β : Type} (g : Nat → Option α) (g' : Nat → Option β) (R : α → β → Prop) : Prop := ∃ a b, Ev g a ∧ Ev g' b ∧ R a b
section
variable {α β γ δ : Type} {R : α → β → Prop}
theorem Twin.of {g : Nat → Option α} {g' : Nat → Option β} {a : α} {b : β} (h : Ev g a) (h' : Ev g' b) (r : R a b) : Twin g g' R := ⟨a, b, h, h', r⟩
theorem Twin.now {a : α} {b : β} (r : R a b) : Twin (fun _ => some a) (fun _ => some b) R := ⟨a, b, Ev.now _, Ev.now _, r⟩
theorem Twin.mono {g : Nat → Option α} {g' : Nat → Option β} {S : α → β → Prop} (h : Twin g g' S) (k : ∀ a b, S a b → R a b) : Twin g g' R := by
 obtain ⟨a, b, h1, h2, h3⟩ := h
 exact ⟨a, b, h1, h2, k a b h3⟩
theorem Twin.stepL {g f : Nat → Option α} {g' : Nat → Option β} (h : ∀ k, g (k + 1) = f k) (t : Twin f g' R) : Twin g g' R := by
 obtain ⟨a, b, h1, h2, h3⟩ := t
 exact ⟨a, b, Ev.step h h1, h2, h3⟩
theorem Twin.stepR {g : Nat → Option α} {g' f : Nat → Option β} (h : ∀ k, g' (k + 1) = f k) (t : Twin g f R) : Twin g g' R := by
 obtain ⟨a, b, h1, h2, h3⟩ := t
 exact ⟨a, b, h1, Ev.step h h2, h3⟩
theorem Twin.ifL {c : Prop} {hd : Decidable c} {g f : Nat → Option α} {g' : Nat → Option β} (y : c → Twin g g' R) (n : ¬ c → Twin f g' R) : Twin (fun k => if c then g k else f k) g' R := by
 by_cases h : c
 ·simp only [if_pos h]; exact y h
 ·simp only [if_neg h]; exact n h
theorem Twin.ifR {c : Prop} {hd : Decidable c} {g : Nat → Option α} {g' f : Nat → Option β} (y : c → Twin g g' R) (n : ¬ c → Twin g f R) : Twin g (fun k => if c then g' k else f k) R := by
 by_cases h : c
 ·simp only [if_pos h]; exact y h
 ·simp only [if_neg h]; exact n h
theorem Twin.bind {g : Nat → Option γ} {g' : Nat → Option δ} {S : γ → δ → Prop} {f : Nat → γ → Option α} {f' : Nat → δ → Option β} (t : Twin g g' S) (k : ∀ a b, S a b → Twin (fun n => f n a) (fun n => f' n b) R) :
 Twin (fun n => (g n).bind (f n)) (fun n => (g' n).bind (f' n)) R := by
 obtain ⟨a, b, h1, h2, h3⟩ := t
 obtain ⟨a', b', h1', h2', h3'⟩ := k a b h3
 exact ⟨a', b', Ev.bind h1 h1', Ev.bind h2 h2', h3'⟩
theorem Twin.bindL {g : Nat → Option γ} {f : Nat → γ → Option α} {g' : Nat → Option β} {a : γ} (h : Ev g a) (t : Twin (fun n => f n a) g' R) : Twin (fun n => (g n).bind (f n)) g' R := by
 obtain ⟨a', b', h1', h2', h3'⟩ := t
 exact ⟨a', b', Ev.bind h h1', h2', h3'⟩
theorem Twin.bindR {g : Nat → Option γ} {f : Nat → γ → Option β} {g' : Nat → Option α} {a : γ} (h : Ev g a) (t : Twin g' (fun n => f n a) R) : Twin g' (fun n => (g n).bind (f n)) R := by
 obtain ⟨a', b', h1', h2', h3'⟩ := t
 exact ⟨a', b', h1', Ev.bind h h2', h3'⟩
theorem Ev.split {c : Prop} {hd : Decidable c} {g f : Nat → Option α} {r : α} (y : c → Ev g r) (n : ¬ c → Ev f r) : Ev (fun k => if c then g k else f k) r := by
 by_cases h : c
 ·simp only [if_pos h]; exact y h
 ·simp only [if_neg h]; exact n h
theorem Ev.is {v r : α} (h : v = r) : Ev (fun _ => Option.some v) r := by subst h; exact Ev.now _
end
theorem Twin.yesL {α β : Type} {R : α → β → Prop} {c : Prop} {hd : Decidable c} {g f : Nat → Option α} {g' : Nat → Option β} (h : c) (y : Twin g g' R) : Twin (fun k => if c then g k else f k) g' R := Twin.ifL (fun _ => y) (fun n => absurd h n)
theorem Twin.noL {α β : Type} {R : α → β → Prop} {c : Prop} {hd : Decidable c} {g f : Nat → Option α} {g' : Nat → Option β} (h : ¬ c) (y : Twin f g' R) : Twin (fun k => if c then g k else f k) g' R := Twin.ifL (fun n => absurd n h) (fun _ => y)
theorem Twin.yesR {α β : Type} {R : α → β → Prop} {c : Prop} {hd : Decidable c} {g : Nat → Option α} {g' f : Nat → Option β} (h : c) (y : Twin g g' R) : Twin g (fun k => if c then g' k else f k) R := Twin.ifR (fun _ => y) (fun n => absurd h n)
theorem Twin.noR {α β : Type} {R : α → β → Prop} {c : Prop} {hd : Decidable c} {g : Nat → Option α} {g' f : Nat → Option β} (h : ¬ c) (y : Twin g f R) : Twin g (fun k => if c then g' k else f k) R := Twin.ifR (fun n => absurd n h) (fun _ => y)

end Go.Proofs.Ytcefbdknoelacaa.Pure

-- YtcefbdknoelacaaOpens
set_option linter.unusedVariables false
set_option linter.unusedSimpArgs false
namespace Go.Proofs.Ytcefbdknoelacaa.Open
open Go.RowKit Go.Proofs.YtcefbdknoelacaaW.PrintWords

def Opens {α : Type} (P : Program) (d : Kd α) (t : TypeId) (ok : α → Prop) : Prop :=
 ∀ {H : Type} {enc : TypeId × Value → H} {w : World} {fuel : Nat} {cs : List Value} {x : DataW H × List MemPlace},
  DataW.trod enc P w 0 (fun _ => true) true fuel t cs = some x → (∀ n ∈ x.1.weights P t, n ≤ reachBytes) → ∃ y, d.K w y cs ∧ ok y

theorem opens_bool {P : Program} {t : TypeId} (ht : P.underlying t = some .bool) : Opens P Kd.bool t (fun _ => True) := by
 intro H enc w fuel cs x h _
 obtain ⟨b, rfl, _⟩ := DataW.trod_bool ht h
 exact ⟨b, rfl, trivial⟩

theorem opens_int {P : Program} {t : TypeId} {k : IntKind} (ht : P.underlying t = some (.int k)) : Opens P (Kd.int k) t (fun n => (Lit.int k n).wf = true) := by
 intro H enc w fuel cs x h _
 obtain ⟨n, rfl, _, hw⟩ := DataW.trod_int ht h
 exact ⟨n, rfl, hw⟩

theorem opens_i64 {P : Program} {t : TypeId} (ht : P.underlying t = some (.int .i64)) : Opens P (Kd.int .i64) t (fun n => -9223372036854775808 ≤ n ∧ n ≤ 9223372036854775807) := by
 intro H enc w fuel cs x h hx
 obtain ⟨y, hy, hw⟩ := opens_int ht h hx
 refine ⟨y, hy, ?_⟩
 simp [Lit.wf, IntKind.min, IntKind.max, IntKind.bits, IntKind.signed] at hw
 omega

theorem opens_string {P : Program} {t : TypeId} (ht : P.underlying t = some .string) : Opens P Kd.string t (fun s => s.size ≤ 140737488351232) := by
 intro H enc w fuel cs x h hx
 obtain ⟨s, rfl, rfl, hw⟩ := DataW.trod_string ht h
 refine ⟨s, rfl, ?_⟩
 have := hx s.data.toList.length (by simp [DataW.weights])
 rw [data_length] at this
 simpa [reachBytes] using this

theorem opens_iso {α β : Type} {P : Program} {d : Kd α} {t : TypeId} {ok : α → Prop} (f : β → α) (g : α → β) (hg : ∀ y, f (g y) = y) (h : Opens P d t ok) : Opens P (Kd.iso d f) t (fun x => ok (f x)) := by
 intro H enc w fuel cs x hx hw
 obtain ⟨y, hy, ho⟩ := h hx hw
 exact ⟨g y, by show d.K w (f (g y)) cs; rw [hg]; exact hy, by show ok (f (g y)); rw [hg]; exact ho⟩

theorem list_of {α : Type} (p : Nat → α → Prop) : ∀ n : Nat, (∀ i, i < n → ∃ y, p i y) → ∃ l : List α, l.length = n ∧ ∀ i y, l[i]? = some y → p i y := by
 intro n
 induction n with
 | zero => intro _; exact ⟨[], rfl, fun i y h => by simp at h⟩
 | succ n ih =>
  intro h
  obtain ⟨l, hl, hp⟩ := ih (fun i hi => h i (by omega))
  obtain ⟨y, hy⟩ := h n (by omega)
  refine ⟨l ++ [y], by simp [hl], fun i z hz => ?_⟩
  by_cases hi : i < l.length
  ·exact hp i z (by rwa [List.getElem?_append_left hi] at hz)
  ·rw [List.getElem?_append_right (by omega)] at hz
   have hi2 : i - l.length < 1 := by
    rcases Nat.lt_or_ge (i - l.length) 1 with h | h
    ·exact h
    ·rw [List.getElem?_eq_none (by simpa using h)] at hz
     cases hz
   have e : i = n := by omega
   subst e
   rw [hl] at hz
   simp at hz
   subst hz
   exact hy

theorem weightsAll_mem {H : Type} {P : Program} {e : TypeId} {d : DataW H} : ∀ {l : List (DataW H)}, d ∈ l → ∀ n ∈ d.weights P e, n ∈ DataW.weightsAll P e l := by
 intro l
 induction l with
 | nil => intro h; cases h
 | cons a l ih =>
  intro h n hn
  rw [DataW.weightsAll, List.mem_append]
  rcases List.mem_cons.1 h with rfl | h
  ·exact .inl hn
  ·exact .inr (ih h n hn)

theorem opens_slice {α : Type} {P : Program} {d : Kd α} {t e : TypeId} {ok : α → Prop} {B : Nat} (ht : P.underlying t = some (.slice e)) (hc : P.cellsOf e = d.sz) (hB : P.bytesOf e = B) (h : Opens P d e ok) :
 Opens P (Kd.slice e d) t (fun xs => xs.length ≤ 9223372036854775807 ∧ xs.length * B ≤ 140737488351232 ∧ ∀ x ∈ xs, ok x) := by
 intro H enc w fuel cs x hx hw
 rcases DataW.trod_slice ht hx with ⟨rfl, rfl⟩ | ⟨a, len, cap, elems, rest, n, _, rfl, rfl, hb, hl, hm, hlen, hel, hsp, _⟩
 ·exact ⟨[], ⟨none, 0, rfl, Nat.le_refl _, Kd.C_nil d w⟩, by simp, by simp, by simp⟩
 ·have each : ∀ i, i < len → ∃ y, (∃ c, c.length = d.sz ∧ d.K w y c ∧ ∀ j u, c[j]? = some u → w.cell? (a.add (i * d.sz + j)) = some u) ∧ ok y := by
   intro i hi
   have h1 := hel i hi
   have hi2 : i < elems.length := by omega
   rw [List.getElem?_eq_getElem hi2, Option.bind_eq_some_iff] at h1
   obtain ⟨c, hcs, h2⟩ := h1
   obtain ⟨_, hcl, hcc⟩ := World.cells?_some hcs
   obtain ⟨y, hy, ho⟩ := h h2 (fun m hm => hw m (by
    rw [DataW.weights]
    simp only [ht, List.mem_cons, List.mem_append]
    exact .inr (.inl (weightsAll_mem (List.mem_map_of_mem (f := Prod.fst) (List.getElem_mem hi2)) m hm))))
   refine ⟨y, ⟨c, by rw [hcl, hc], hy, fun j u hu => ?_⟩, ho⟩
   have hj : j < P.cellsOf e := by
    rcases Nat.lt_or_ge j c.length with h | h
    ·omega
    ·rw [List.getElem?_eq_none h] at hu
     cases hu
   have := hcc j hj
   rw [hu, Go.Addr.add_add, hc] at this
   exact this
  obtain ⟨l, hll, hp⟩ := list_of _ len each
  have hlb : len * B ≤ 140737488351232 := by
   have h1 : ((elems.map (·.1)).length + (rest.map (·.1)).length) * P.bytesOf e ≤ reachBytes := hw _ (by
    rw [DataW.weights]
    simp only [ht]
    exact List.mem_cons_self)
   rw [hB] at h1
   have h2 : len * B ≤ ((elems.map (·.1)).length + (rest.map (·.1)).length) * B := Nat.mul_le_mul_right _ (by simp; omega)
   simpa [reachBytes] using Nat.le_trans h2 h1
  refine ⟨l, ⟨some a, cap, by rw [hll], by omega, ⟨rfl, by simp only [maxLen] at hm; omega, fun _ => ⟨a, rfl, fun j p hj => (hp j p hj).1⟩⟩⟩, by simp only [maxLen] at hm; omega, by rw [hll]; exact hlb, fun x hx => ?_⟩
  obtain ⟨i, hi⟩ := List.getElem?_of_mem hx
  exact (hp i x hi).2

def Fields {α : Type} (P : Program) (d : Kd α) (fs : List Field) (off tot : Nat) (ok : α → Prop) : Prop :=
 ∀ {H : Type} {enc : TypeId × Value → H} {w : World} {n : Nat} {cs : List Value} {xs : List (DataW H × List MemPlace)}, cs.length = tot → xs.length = fs.length →
  (∀ (i : Nat) (f : Field), fs[i]? = some f → DataW.trod enc P w 0 (fun _ => true) true n f.type ((cs.drop f.offset).take (P.cellsOf f.type)) = xs[i]?) →
  (∀ m ∈ DataW.weightsEach P (fs.map (·.type)) (xs.map (·.1)), m ≤ reachBytes) → ∃ y, d.K w y (cs.drop off) ∧ ok y

theorem fields_last {α : Type} {P : Program} {d : Kd α} {f : Field} {off tot : Nat} {ok : α → Prop} (h : Opens P d f.type ok) (ho : f.offset = off) (hc : off + P.cellsOf f.type = tot) : Fields P d [f] off tot ok := by
 intro H enc w n cs xs hcs hxs hf hw
 obtain ⟨x, rfl⟩ : ∃ x, xs = [x] := by
  match xs, hxs with
  | [x], _ => exact ⟨x, rfl⟩
 have h1 := hf 0 f rfl
 rw [ho, List.take_of_length_le (by simp; omega)] at h1
 exact h h1 (fun m hm => hw m (by simpa [DataW.weightsEach] using hm))

theorem fields_cons {α β : Type} {P : Program} {a : Kd α} {b : Kd β} {f : Field} {fs : List Field} {off tot : Nat} {okA : α → Prop} {okB : β → Prop} (h : Opens P a f.type okA) (ho : f.offset = off) (hs : Fields P b fs (off + P.cellsOf f.type) tot okB) :
 Fields P (Kd.pair a b) (f :: fs) off tot (fun y => okA y.1 ∧ okB y.2) := by
 intro H enc w n cs xs hcs hxs hf hw
 match xs, hxs with
 | x :: xs, hxs =>
  have h1 := hf 0 f rfl
  rw [ho] at h1
  obtain ⟨y, hy, hoy⟩ := h (x := x) h1 (fun m hm => hw m (by simp [DataW.weightsEach]; exact .inl hm))
  obtain ⟨z, hz, hoz⟩ := hs (xs := xs) hcs (by simpa using hxs) (fun i g hg => by have := hf (i + 1) g (by simpa using hg); simpa using this) (fun m hm => hw m (by
   simp only [List.map_cons, DataW.weightsEach, List.mem_append]
   exact .inr hm))
  exact ⟨(y, z), ⟨_, _, by rw [← List.drop_drop, List.take_append_drop], hy, hz⟩, hoy, hoz⟩

theorem opens_struct {α : Type} {P : Program} {d : Kd α} {t : TypeId} {fs : Array Field} {tot : Nat} {ok : α → Prop} (ht : P.underlying t = some (.struct fs)) (hc : P.cellsOf t = tot) (h : Fields P d fs.toList 0 tot ok) : Opens P d t ok := by
 intro H enc w fuel cs x hx hw
 obtain ⟨xs, n, _, rfl, hcl, hxl, hf⟩ := DataW.trod_struct ht hx
 have := h (enc := enc) (w := w) (n := n) (cs := cs) (xs := xs) (by rw [hcl, hc]) (by simpa using hxl) (fun i f hi => hf i f (by simpa using hi)) (fun m hm => hw m (by
  rw [DataW.weights]
  simp only [ht]
  exact hm))
 simpa using this

theorem param_slice {α : Type} {H : Type} {enc : TypeId × Value → H} {P : Program} {d : Kd α} {t e : TypeId} {ok : List α → Prop} {w : World} {a : Option Addr} {len cap : Nat} {x : DataW H} {ps : List MemPlace} {ts : List TypeId} {ds : List (DataW H)} {j : Nat}
 (hsz : (DataW.weightsEach P ts ds).all (· ≤ reachBytes) = true) (hj : ts[j]? = some t) (hd : ds[j]? = some x) (h : DataW.Trod enc P w 0 (fun _ => true) true t (.slice a len cap) x ps) (ho : Opens P (Kd.slice e d) t ok) :
 ∃ l, len = l.length ∧ l.length ≤ cap ∧ d.C w a l.length l ∧ ok l := by
 obtain ⟨fuel, hf⟩ := h
 obtain ⟨l, ⟨A, c, he, hl, hC⟩, hok⟩ := ho hf (weights_of hsz hj hd)
 simp [Value.cells] at he
 obtain ⟨rfl, rfl, rfl⟩ := he
 exact ⟨l, rfl, hl, hC, hok⟩
 where
 weights_of {H : Type} {P : Program} {t : TypeId} {x : DataW H} : ∀ {ts : List TypeId} {ds : List (DataW H)} {j : Nat}, (DataW.weightsEach P ts ds).all (· ≤ reachBytes) = true → ts[j]? = some t → ds[j]? = some x → ∀ n ∈ x.weights P t, n ≤ reachBytes := by
  intro ts
  induction ts with
  | nil => intro ds j _ h; simp at h
  | cons a ts ih =>
   intro ds j hw ht hd n hn
   match ds with
   | [] => simp at hd
   | d :: ds =>
    rw [DataW.weightsEach, List.all_append, Bool.and_eq_true] at hw
    cases j with
    | zero =>
     simp at ht hd
     subst ht; subst hd
     simpa using List.all_eq_true.1 hw.1 n hn
    | succ j => exact ih hw.2 (by simpa using ht) (by simpa using hd) n hn

theorem param_any {α : Type} {H : Type} {enc : TypeId × Value → H} {P : Program} {d : Kd α} {t : TypeId} {ok : α → Prop} {w : World} {v : Value} {x : DataW H} {ps : List MemPlace} {ts : List TypeId} {ds : List (DataW H)} {j : Nat}
 (hsz : (DataW.weightsEach P ts ds).all (· ≤ reachBytes) = true) (hj : ts[j]? = some t) (hd : ds[j]? = some x) (h : DataW.Trod enc P w 0 (fun _ => true) true t v x ps) (ho : Opens P d t ok) :
 ∃ y, d.K w y v.cells.toList ∧ ok y := by
 obtain ⟨fuel, hf⟩ := h
 exact ho hf (param_slice.weights_of hsz hj hd)

def OkI (n : Int) : Prop := -9223372036854775808 ≤ n ∧ n ≤ 9223372036854775807
def OkB (_ : Bool) : Prop := True
def OkS (s : ByteArray) : Prop := s.size ≤ 140737488351232
def OkL {α : Type} (B : Nat) (ok : α → Prop) (xs : List α) : Prop := xs.length ≤ 9223372036854775807 ∧ xs.length * B ≤ 140737488351232 ∧ ∀ x ∈ xs, ok x

end Go.Proofs.Ytcefbdknoelacaa.Open

-- YtcefbdknoelacaaOk
set_option linter.unusedVariables false
namespace Go.Proofs.Ytcefbdknoelacaa.P
open Go.RowKit Go.Proofs.Ytcefbdknoelacaa.Open Go.Proofs.Ytcefbdknoelacaa.P Go.Proofs.YtcefbdknoelacaaW.PrintWords Go.Proofs.YtcefbdknoelacaaW.PrintLast Go.Proofs.YtcefbdknoelacaaW.PrintMore

def ok91 (x : S91) : Prop := OkI x.f0 ∧ OkI x.f1
set_option maxRecDepth 100000 in
theorem opens91 : Opens Try.prog k91 91 ok91 := opens_iso _ (fun y => ⟨y.1, y.2⟩) (fun _ => rfl) (opens_struct (tot := 2) Try.underlying91 (by kernel_rfl) (fields_cons (opens_i64 Try.underlying3) (by kernel_rfl) (fields_last (opens_i64 Try.underlying3) (by kernel_rfl) (by kernel_rfl))))
def ok89 (x : S89) : Prop := OkI x.f0 ∧ OkS x.f1
set_option maxRecDepth 100000 in
theorem opens89 : Opens Try.prog k89 89 ok89 := opens_iso _ (fun y => ⟨y.1, y.2⟩) (fun _ => rfl) (opens_struct (tot := 2) Try.underlying89 (by kernel_rfl) (fields_cons (opens_i64 Try.underlying3) (by kernel_rfl) (fields_last (opens_string Try.underlying9) (by kernel_rfl) (by kernel_rfl))))
def ok44 (x : S44) : Prop := OkS x.f0 ∧ OkI x.f1 ∧ OkB x.f2 ∧ (OkL 16 ok91) x.f3 ∧ (OkL 24 ok89) x.f4
set_option maxRecDepth 100000 in
theorem opens44 : Opens Try.prog k44 44 ok44 := opens_iso _ (fun y => ⟨y.1, y.2.1, y.2.2.1, y.2.2.2.1, y.2.2.2.2⟩) (fun _ => rfl) (opens_struct (tot := 5) Try.underlying44 (by kernel_rfl) (fields_cons (opens_string Try.underlying9) (by kernel_rfl) (fields_cons (opens_i64 Try.underlying3) (by kernel_rfl) (fields_cons (opens_bool Try.underlying4) (by kernel_rfl) (fields_cons (opens_slice Try.underlying41 (by kernel_rfl) (by kernel_rfl) opens91) (by kernel_rfl) (fields_last (opens_slice Try.underlying42 (by kernel_rfl) (by kernel_rfl) opens89) (by kernel_rfl) (by kernel_rfl)))))))
end Go.Proofs.Ytcefbdknoelacaa.P

-- YtcefbdknoelacaaQ1
set_option linter.unusedVariables false
set_option linter.unusedSimpArgs false
namespace Go.Proofs.Ytcefbdknoelacaa.Pure
open Go.RowKit Go.Proofs.Ytcefbdknoelacaa.Open Go.Proofs.Ytcefbdknoelacaa.P Go.Proofs.YtcefbdknoelacaaW.PrintWords Go.Proofs.YtcefbdknoelacaaW.PrintLast Go.Proofs.YtcefbdknoelacaaW.PrintMore

theorem in_ev (a l h : Int) : kit_In.f a l h = some (decide (l ≤ a ∧ a ≤ h)) := by
 unfold kit_In.f
 by_cases h1 : l ≤ a <;> simp [h1]
theorem within_ev (a l h : Int) : perigeeref7_within.f a l h = some (decide (l ≤ a ∧ a ≤ h)) := by
 unfold perigeeref7_within.f
 by_cases h1 : l ≤ a <;> simp [h1]

theorem word_loop (s : ByteArray) (hs : s.size ≤ 140737488351232) : ∀ (d i : Nat), i + d = s.size → (i = 0 → 97 ≤ bt s 0 ∧ bt s 0 ≤ 122) →
 Twin (fun k => telemetry_Word.l0 k s (s.size : Int) i) (fun k => perigeeref7_IsWord.l0 k s (s.size : Int) i) (fun a b => a = b) := by
 intro d
 induction d with
 | zero =>
  intro i hi h0
  refine Twin.stepL (fun k => by rw [telemetry_Word.l0]) (Twin.stepR (fun k => by rw [perigeeref7_IsWord.l0]) ?_)
  repeat' (first | (exfalso; omega) | (refine Twin.ifL (fun h_ => ?_) (fun h_ => ?_)) | (refine Twin.ifR (fun h_ => ?_) (fun h_ => ?_)))
  exact Twin.now rfl
 | succ d ih =>
  intro i hi h0
  have next := ih (i + 1) (by omega) (by omega)
  refine Twin.stepL (fun k => by rw [telemetry_Word.l0]) (Twin.stepR (fun k => by rw [perigeeref7_IsWord.l0]) ?_)
  rw [w64 (x := (i : Int) + 1) (by omega) (by omega)]
  have h1 : (i : Int) = 0 → 97 ≤ bt s i ∧ bt s i ≤ 122 := by
   intro h
   rw [h]
   exact h0 (by omega)
  generalize bt s i = c at h1
  repeat' (first | (exfalso; omega) | (refine Twin.ifL (fun h_ => ?_) (fun h_ => ?_)) | (refine Twin.ifR (fun h_ => ?_) (fun h_ => ?_)))
  all_goals first | exact next | exact Twin.now rfl
theorem word_ev (s : ByteArray) (hs : OkS s) : ∃ b, Ev (fun k => telemetry_Word.f k s) b ∧ Ev (fun k => perigeeref7_IsWord.f k s) b := by
 have hs : s.size ≤ 140737488351232 := hs
 have : Twin (fun k => telemetry_Word.f k s) (fun k => perigeeref7_IsWord.f k s) (fun a b => a = b) := by
  unfold telemetry_Word.f perigeeref7_IsWord.f
  simp only [within_ev, Option.bind_some, empty_iff, decide_eq_true_eq]
  repeat' (first | (exfalso; omega) | (refine Twin.ifL (fun h_ => ?_) (fun h_ => ?_)) | (refine Twin.ifR (fun h_ => ?_) (fun h_ => ?_)))
  all_goals (try refine Twin.stepL (fun k => by rw [telemetry_Word.j0]) ?_)
  all_goals (try refine Twin.stepR (fun k => by rw [perigeeref7_IsWord.j0]) ?_)
  all_goals simp only [decide_eq_true_eq, if_true]
  all_goals (repeat' (first | (exfalso; omega) | (refine Twin.ifL (fun h_ => ?_) (fun h_ => ?_)) | (refine Twin.ifR (fun h_ => ?_) (fun h_ => ?_))))
  all_goals first | exact Twin.now rfl | exact word_loop s hs s.size 0 (by omega) (fun _ => by omega) | (refine Twin.stepL (fun k => by rw [telemetry_Word.l0]) ?_; (repeat' (first | (exfalso; omega) | (refine Twin.ifL (fun h_ => ?_) (fun h_ => ?_)) | (refine Twin.ifR (fun h_ => ?_) (fun h_ => ?_)))); exact Twin.now rfl)
 obtain ⟨a, b, h1, h2, rfl⟩ := this
 exact ⟨a, h1, h2⟩

theorem shl_one : ∀ n : Nat, n ≤ 24 → shl .i64 1 (n : Int) = ((2 ^ n : Nat) : Int) := by
 intro n hn
 have : ∀ m : Fin 25, shl .i64 1 ((m.val : Nat) : Int) = ((2 ^ m.val : Nat) : Int) := by decide +kernel
 exact this ⟨n, by omega⟩
theorem shl_neg : ∀ n : Nat, n ≤ 24 → shl .i64 (-1) (n : Int) = -((2 ^ n : Nat) : Int) := by
 intro n hn
 have : ∀ m : Fin 25, shl .i64 (-1) ((m.val : Nat) : Int) = -((2 ^ m.val : Nat) : Int) := by decide +kernel
 exact this ⟨n, by omega⟩
def lo (p : S44) : Int := if p.f2 = true then -((2 ^ (p.f1 - 1).toNat : Nat) : Int) else 0
def hi (p : S44) : Int := if p.f2 = true then ((2 ^ (p.f1 - 1).toNat : Nat) : Int) - 1 else ((2 ^ p.f1.toNat : Nat) : Int) - 1
theorem pow_bd : ∀ n : Nat, n ≤ 24 → 1 ≤ 2 ^ n ∧ 2 ^ n ≤ 16777216 := by decide +kernel
theorem span_ev (p : S44) (h : 1 ≤ p.f1 ∧ p.f1 ≤ 24) : telemetry_span.f p.f0 p.f1 p.f2 p.f3 p.f4 = some (lo p, hi p) := by
 obtain ⟨n, hn⟩ : ∃ n : Nat, p.f1 = (n : Int) + 1 := ⟨(p.f1 - 1).toNat, by omega⟩
 have b1 := pow_bd n (by omega)
 have b2 := pow_bd (n + 1) (by omega)
 unfold telemetry_span.f lo hi
 rw [hn, w64 (x := (n : Int) + 1 - 1) (by omega) (by omega), show (n : Int) + 1 - 1 = n by omega, shl_neg n (by omega), shl_one n (by omega), show ((n : Int) + 1) = ((n + 1 : Nat) : Int) by omega, shl_one (n + 1) (by omega)]
 rw [w64 (by omega) (by omega), w64 (by omega) (by omega)]
 simp only [Int.toNat_natCast]
 by_cases hb : p.f2 = true
 ·simp [hb]
 ·simp [hb]
  omega
theorem ends_ev (p : S44) (h : 1 ≤ p.f1 ∧ p.f1 ≤ 24) : perigeeref7_ends.f p.f0 p.f1 p.f2 p.f3 p.f4 = some (lo p, hi p) := by
 rw [← span_ev p h]; rfl
theorem isRaw_ev (p : S44) (h : 1 ≤ p.f1 ∧ p.f1 ≤ 24) (n : Int) : perigeeref7_isRaw.f p.f0 p.f1 p.f2 p.f3 p.f4 n = some (decide (lo p ≤ n ∧ n ≤ hi p)) := by
 unfold perigeeref7_isRaw.f
 rw [ends_ev p h]
 simp only [Option.bind_some, within_ev]
theorem span_bd (p : S44) (h : 1 ≤ p.f1 ∧ p.f1 ≤ 24) : -16777216 ≤ lo p ∧ hi p ≤ 16777216 := by
 have b1 := pow_bd (p.f1 - 1).toNat (by omega)
 have b2 := pow_bd p.f1.toNat (by omega)
 unfold lo hi
 constructor
 ·split <;> omega
 ·split <;> omega

def Dots (p : S44) (i : Nat) : Prop := ∀ j : Nat, i ≤ j → j < p.f3.length → (lo p ≤ (rd_T91 p.f3 j).f0 ∧ (rd_T91 p.f3 j).f0 ≤ hi p) ∧ (-1000000000 ≤ (rd_T91 p.f3 j).f1 ∧ (rd_T91 p.f3 j).f1 ≤ 1000000000) ∧ (0 < j → (rd_T91 p.f3 ((j : Int) - 1)).f0 < (rd_T91 p.f3 j).f0)
theorem dots_loop (p : S44) (hb : 1 ≤ p.f1 ∧ p.f1 ≤ 24) (hl : p.f3.length ≤ 50) (s : Int)
 (hs : Ev (fun k => if (p.f4.length : Int) > 50 then some 2 else perigeeref7_checkPoints.l1 k p.f4 (p.f4.length : Int) 0 p.f0 p.f1 p.f2 p.f3 p.f4) s) : ∀ (d i : Nat), i + d = p.f3.length →
 Twin (fun k => telemetry_checkDots.l0 k (lo p) (hi p) p.f3 (p.f3.length : Int) i p.f0 p.f1 p.f2 p.f3 p.f4) (fun k => perigeeref7_checkPoints.l0 k p.f3 (p.f3.length : Int) i p.f0 p.f1 p.f2 p.f3 p.f4)
  (fun a b => b = (if a = 0 then s else a) ∧ (a = 0 → Dots p i)) := by
 intro d
 induction d with
 | zero =>
  intro i hij
  refine Twin.stepL (fun k => by rw [telemetry_checkDots.l0]) (Twin.stepR (fun k => by rw [perigeeref7_checkPoints.l0]) ?_)
  refine Twin.noL (by omega) (Twin.noR (by omega) ?_)
  exact ⟨0, s, Ev.now _, hs, rfl, fun _ j h1 h2 => by omega⟩
 | succ d ih =>
  intro i hij
  have next := ih (i + 1) (by omega)
  refine Twin.stepL (fun k => by rw [telemetry_checkDots.l0]) (Twin.stepR (fun k => by rw [perigeeref7_checkPoints.l0]) ?_)
  simp only [in_ev, isRaw_ev p hb, within_ev, Option.bind_some, decide_eq_true_eq]
  have h1 : ((i : Nat) : Int) < (p.f3.length : Int) := by omega
  simp only [if_pos h1, if_pos (show (0 : Int) ≤ (i : Int) by omega)]
  have add : ∀ b : Bool, (b = true → ¬ ((lo p ≤ (rd_T91 p.f3 i).f0 ∧ (rd_T91 p.f3 i).f0 ≤ hi p) ∧ (-1000000000 ≤ (rd_T91 p.f3 i).f1 ∧ (rd_T91 p.f3 i).f1 ≤ 1000000000))) → (b = false → ((lo p ≤ (rd_T91 p.f3 i).f0 ∧ (rd_T91 p.f3 i).f0 ≤ hi p) ∧ (-1000000000 ≤ (rd_T91 p.f3 i).f1 ∧ (rd_T91 p.f3 i).f1 ≤ 1000000000))) →
   Twin (fun k => telemetry_checkDots.j1 k (lo p) (hi p) i p.f3 (p.f3.length : Int) i b p.f0 p.f1 p.f2 p.f3 p.f4 (rd_T91 p.f3 i).f0 (rd_T91 p.f3 i).f1) (fun k => perigeeref7_checkPoints.j1 k i p.f3 (p.f3.length : Int) i b p.f0 p.f1 p.f2 p.f3 p.f4 (rd_T91 p.f3 i).f0 (rd_T91 p.f3 i).f1)
    (fun a b => b = (if a = 0 then s else a) ∧ (a = 0 → Dots p i)) := by
   intro b hb1 hb2
   refine Twin.stepL (fun k => by rw [telemetry_checkDots.j1]) (Twin.stepR (fun k => by rw [perigeeref7_checkPoints.j1]) ?_)
   rw [w64 (x := (i : Int) - 1) (by omega) (by omega), w64 (x := (i : Int) + 1) (by omega) (by omega)]
   cases b with
   | true =>
    simp only [if_true]
    exact Twin.now ⟨rfl, fun h => absurd h (by decide)⟩
   | false =>
    simp only [Bool.false_eq_true, if_false]
    have good := hb2 rfl
    have fin : (0 < i → (rd_T91 p.f3 ((i : Int) - 1)).f0 < (rd_T91 p.f3 i).f0) → Twin (fun k => telemetry_checkDots.l0 k (lo p) (hi p) p.f3 (p.f3.length : Int) ((i : Int) + 1) p.f0 p.f1 p.f2 p.f3 p.f4) (fun k => perigeeref7_checkPoints.l0 k p.f3 (p.f3.length : Int) ((i : Int) + 1) p.f0 p.f1 p.f2 p.f3 p.f4) (fun a b => b = (if a = 0 then s else a) ∧ (a = 0 → Dots p i)) := by
     intro hlt
     refine Twin.mono next fun a b ⟨h1, h2⟩ => ⟨h1, fun ha j h3 h4 => ?_⟩
     rcases Nat.lt_or_ge i j with h5 | h5
     ·exact h2 ha j h5 h4
     ·obtain rfl : j = i := by omega
      exact ⟨good.1, good.2, hlt⟩
    repeat' (first | (exfalso; omega) | (refine Twin.ifL (fun h_ => ?_) (fun h_ => ?_)) | (refine Twin.ifR (fun h_ => ?_) (fun h_ => ?_)))
    ·exact Twin.now ⟨rfl, fun h => absurd h (by decide)⟩
    ·exact fin (fun _ => by omega)
    ·exact fin (fun _ => by omega)
  repeat' (first | (exfalso; omega) | (refine Twin.ifL (fun h_ => ?_) (fun h_ => ?_)) | (refine Twin.ifR (fun h_ => ?_) (fun h_ => ?_)))
  ·exact add _ (by simp; omega) (by simp; omega)
  ·exact add _ (by simp; omega) (by simp)

theorem dots_ev (p : S44) (hb : 1 ≤ p.f1 ∧ p.f1 ≤ 24) (s : Int)
 (hs : Ev (fun k => if (p.f4.length : Int) > 50 then some 2 else perigeeref7_checkPoints.l1 k p.f4 (p.f4.length : Int) 0 p.f0 p.f1 p.f2 p.f3 p.f4) s) :
 Twin (fun k => telemetry_checkDots.f k p.f0 p.f1 p.f2 p.f3 p.f4) (fun k => perigeeref7_checkPoints.f k p.f0 p.f1 p.f2 p.f3 p.f4) (fun a b => b = (if a = 0 then s else a) ∧ (a = 0 → Dots p 0 ∧ p.f3.length ≤ 50 ∧ p.f3.length ≠ 1)) := by
 unfold telemetry_checkDots.f perigeeref7_checkPoints.f
 rw [span_ev p hb]
 simp only [Option.bind_some]
 repeat' (first | (exfalso; omega) | (refine Twin.ifL (fun h_ => ?_) (fun h_ => ?_)) | (refine Twin.ifR (fun h_ => ?_) (fun h_ => ?_)))
 ·exact Twin.now ⟨rfl, fun h => absurd h (by decide)⟩
 ·exact Twin.now ⟨rfl, fun h => absurd h (by decide)⟩
 ·exact Twin.mono (dots_loop p hb (by omega) s hs p.f3.length 0 (by omega)) fun a b ⟨h1, h2⟩ => ⟨h1, fun h => ⟨h2 h, by omega, by omega⟩⟩

theorem words_loop (p : S44) (hb : 1 ≤ p.f1 ∧ p.f1 ≤ 24) (hl : p.f4.length ≤ 50) (hn : ∀ z ∈ p.f4, OkS z.f1) : ∀ (d i : Nat), i + d = p.f4.length →
 Twin (fun k => telemetry_checkWords.l0 k (lo p) (hi p) p.f4 (p.f4.length : Int) i p.f0 p.f1 p.f2 p.f3 p.f4) (fun k => perigeeref7_checkPoints.l1 k p.f4 (p.f4.length : Int) i p.f0 p.f1 p.f2 p.f3 p.f4) (fun a b => a = b) := by
 intro d
 induction d with
 | zero =>
  intro i hij
  refine Twin.stepL (fun k => by rw [telemetry_checkWords.l0]) (Twin.stepR (fun k => by rw [perigeeref7_checkPoints.l1]) ?_)
  refine Twin.noL (by omega) (Twin.noR (by omega) ?_)
  exact Twin.now rfl
 | succ d ih =>
  intro i hij
  have next := ih (i + 1) (by omega)
  refine Twin.stepL (fun k => by rw [telemetry_checkWords.l0]) (Twin.stepR (fun k => by rw [perigeeref7_checkPoints.l1]) ?_)
  simp only [in_ev, isRaw_ev p hb, within_ev, Option.bind_some, decide_eq_true_eq]
  have h1 : ((i : Nat) : Int) < (p.f4.length : Int) := by omega
  simp only [if_pos h1, if_pos (show (0 : Int) ≤ (i : Int) by omega)]
  rw [w64 (x := (i : Int) - 1) (by omega) (by omega), w64 (x := (i : Int) + 1) (by omega) (by omega)]
  obtain ⟨b, e1, e2⟩ := word_ev (rd_T89 p.f4 i).f1 (hn _ (getD_mem (by simpa using h1)))
  refine Twin.ifL (fun h2 => Twin.yesR h2 ?_) (fun h2 => Twin.noR h2 (Twin.now rfl))
  refine Twin.bindL e1 (Twin.bindR e2 ?_)
  refine Twin.ifL (fun h3 => Twin.yesR h3 ?_) (fun h3 => Twin.noR h3 (Twin.now rfl))
  repeat' (first | (exfalso; omega) | (refine Twin.ifL (fun h_ => ?_) (fun h_ => ?_)) | (refine Twin.ifR (fun h_ => ?_) (fun h_ => ?_)))
  all_goals first | exact Twin.now rfl | exact next
theorem words_ev (p : S44) (hb : 1 ≤ p.f1 ∧ p.f1 ≤ 24) (hn : ∀ z ∈ p.f4, OkS z.f1) :
 ∃ s, Ev (fun k => telemetry_checkWords.f k p.f0 p.f1 p.f2 p.f3 p.f4) s ∧ Ev (fun k => if (p.f4.length : Int) > 50 then some 2 else perigeeref7_checkPoints.l1 k p.f4 (p.f4.length : Int) 0 p.f0 p.f1 p.f2 p.f3 p.f4) s ∧ (s = 0 → p.f4.length ≤ 50) := by
 have : Twin (fun k => telemetry_checkWords.f k p.f0 p.f1 p.f2 p.f3 p.f4) (fun k => if (p.f4.length : Int) > 50 then some 2 else perigeeref7_checkPoints.l1 k p.f4 (p.f4.length : Int) 0 p.f0 p.f1 p.f2 p.f3 p.f4) (fun a b => a = b ∧ (a = 0 → p.f4.length ≤ 50)) := by
  unfold telemetry_checkWords.f
  rw [span_ev p hb]
  simp only [Option.bind_some]
  repeat' (first | (exfalso; omega) | (refine Twin.ifL (fun h_ => ?_) (fun h_ => ?_)) | (refine Twin.ifR (fun h_ => ?_) (fun h_ => ?_)))
  ·exact Twin.now ⟨rfl, fun h => absurd h (by decide)⟩
  ·exact Twin.mono (words_loop p hb (by omega) hn p.f4.length 0 (by omega)) fun a b h => ⟨h, fun _ => by omega⟩
 obtain ⟨a, b, h1, h2, rfl, h3⟩ := this
 exact ⟨a, h1, h2, h3⟩

theorem first_ev (a b : Int) : Ev (fun k => kit_First.f k [a, b]) (if a = 0 then b else a) := by
 unfold kit_First.f
 refine Ev.step (fun k => by rw [kit_First.l0]) ?_
 rw [show rd [a, b] 0 = a from rfl, show wrap64 (0 + 1) = 1 from w64 (by omega) (by omega), show (([a, b] : List Int).length : Int) = 2 from rfl]
 refine Ev.yes (by omega) (Ev.yes (by omega) (Ev.yes (by omega) (Ev.split (fun h => ?_) (fun h => ?_))))
 ·rw [if_pos h]
  refine Ev.step (fun k => by rw [kit_First.l0]) ?_
  rw [show rd [a, b] 1 = b from rfl, show wrap64 (1 + 1) = 2 from w64 (by omega) (by omega), show (([a, b] : List Int).length : Int) = 2 from rfl]
  refine Ev.yes (by omega) (Ev.yes (by omega) (Ev.yes (by omega) (Ev.split (fun h => ?_) (fun h => Ev.now _))))
  refine Ev.step (fun k => by rw [kit_First.l0]) (Ev.no (by omega) ?_)
  rw [h]
  exact Ev.now _
 ·rw [if_neg h]
  exact Ev.now _

def Fit (p : S44) : Prop := (1 ≤ p.f1 ∧ p.f1 ≤ 24) ∧ Dots p 0 ∧ p.f3.length ≤ 50 ∧ p.f3.length ≠ 1 ∧ p.f4.length ≤ 50
def Fits (l : List S44) (i : Nat) : Prop := ∀ j : Nat, i ≤ j → j < l.length → Fit (rd_T44 l j) ∧ (0 < j → Op.bytesLess (rd_T44 l ((j : Int) - 1)).f0.toList (rd_T44 l j).f0.toList = true)
theorem params_loop (l : List S44) (hl : l.length ≤ 500) (hn : ∀ z ∈ l, ok44 z) : ∀ (d i : Nat), i + d = l.length →
 Twin (fun k => telemetry_CheckParameters.l0 k l l (l.length : Int) i) (fun k => perigeeref7_CheckParameters.l0 k l l (l.length : Int) i) (fun a b => a = b ∧ (a = 0 → Fits l i)) := by
 intro d
 induction d with
 | zero =>
  intro i hij
  refine Twin.stepL (fun k => by rw [telemetry_CheckParameters.l0]) (Twin.stepR (fun k => by rw [perigeeref7_CheckParameters.l0]) ?_)
  refine Twin.noL (by omega) (Twin.noR (by omega) ?_)
  exact Twin.now ⟨rfl, fun _ j h1 h2 => by omega⟩
 | succ d ih =>
  intro i hij
  have next := ih (i + 1) (by omega)
  refine Twin.stepL (fun k => by rw [telemetry_CheckParameters.l0]) (Twin.stepR (fun k => by rw [perigeeref7_CheckParameters.l0]) ?_)
  simp only [in_ev, within_ev, Option.bind_some, decide_eq_true_eq]
  have h1 : ((i : Nat) : Int) < (l.length : Int) := by omega
  have hp : ok44 (rd_T44 l i) := hn _ (getD_mem (by simpa using h1))
  simp only [if_pos h1, if_pos (show (0 : Int) ≤ (i : Int) by omega)]
  rw [w64 (x := (i : Int) - 1) (by omega) (by omega), w64 (x := (i : Int) + 1) (by omega) (by omega)]
  obtain ⟨b, e1, e2⟩ := word_ev (rd_T44 l i).f0 hp.1
  refine Twin.bindL e1 (Twin.bindR e2 ?_)
  refine Twin.ifL (fun h3 => Twin.yesR h3 ?_) (fun h3 => Twin.noR h3 (Twin.now ⟨rfl, fun h => absurd h (by decide)⟩))
  refine Twin.ifL (fun h4 => Twin.yesR h4 ?_) (fun h4 => Twin.noR h4 (Twin.now ⟨rfl, fun h => absurd h (by decide)⟩))
  obtain ⟨s, w1, w2, w3⟩ := words_ev (rd_T44 l i) h4 (fun z hz => (hp.2.2.2.2.2.2 z hz).2)
  obtain ⟨a, c, d1, d2, rfl, d3⟩ := dots_ev (rd_T44 l i) h4 s w2
  refine Twin.bindL d1 (Twin.bindL w1 (Twin.bindL (first_ev a s) (Twin.bindR d2 ?_)))
  refine Twin.ifL (fun h5 => Twin.yesR h5 ?_) (fun h5 => Twin.noR h5 (Twin.now ⟨rfl, fun h => absurd h h5⟩))
  have ha : a = 0 := by
   by_cases h : a = 0
   ·exact h
   ·rw [if_neg h] at h5; exact absurd h5 h
  rw [if_pos ha] at h5
  have fit : Fit (rd_T44 l i) := ⟨h4, (d3 ha).1, (d3 ha).2.1, (d3 ha).2.2, w3 h5⟩
  have fin : (0 < i → Op.bytesLess (rd_T44 l ((i : Int) - 1)).f0.toList (rd_T44 l i).f0.toList = true) → Twin (fun k => telemetry_CheckParameters.l0 k l l (l.length : Int) ((i : Int) + 1)) (fun k => perigeeref7_CheckParameters.l0 k l l (l.length : Int) ((i : Int) + 1)) (fun a b => a = b ∧ (a = 0 → Fits l i)) := by
   intro hlt
   refine Twin.mono next fun a b ⟨h1, h2⟩ => ⟨h1, fun ha j h3 h4 => ?_⟩
   rcases Nat.lt_or_ge i j with h5 | h5
   ·exact h2 ha j h5 h4
   ·obtain rfl : j = i := by omega
    exact ⟨fit, hlt⟩
  refine Twin.ifL (fun h6 => Twin.yesR h6 ?_) (fun h6 => Twin.noR h6 (fin fun h => absurd h (by omega)))
  refine Twin.yesL (by omega) (Twin.yesR (by omega) (Twin.yesL (by omega) (Twin.yesR (by omega) ?_)))
  refine Twin.ifL (fun h7 => Twin.yesR h7 (fin fun _ => h7)) (fun h7 => Twin.noR h7 (Twin.now ⟨rfl, fun h => absurd h (by decide)⟩))
theorem params_ev (l : List S44) (h : OkL 80 ok44 l) : ∃ c, Ev (fun k => telemetry_CheckParameters.f k l) c ∧ Ev (fun k => perigeeref7_CheckParameters.f k l) c ∧ (c = 0 → l.length ≤ 500 ∧ Fits l 0) := by
 have : Twin (fun k => telemetry_CheckParameters.f k l) (fun k => perigeeref7_CheckParameters.f k l) (fun a b => a = b ∧ (a = 0 → l.length ≤ 500 ∧ Fits l 0)) := by
  unfold telemetry_CheckParameters.f perigeeref7_CheckParameters.f
  repeat' (first | (exfalso; omega) | (refine Twin.ifL (fun h_ => ?_) (fun h_ => ?_)) | (refine Twin.ifR (fun h_ => ?_) (fun h_ => ?_)))
  ·exact Twin.now ⟨rfl, fun h => absurd h (by decide)⟩
  ·exact Twin.mono (params_loop l (by omega) h.2.2 l.length 0 (by omega)) fun a b ⟨h1, h2⟩ => ⟨h1, fun h => ⟨by omega, h2 h⟩⟩
 obtain ⟨a, b, h1, h2, rfl, h3⟩ := this
 exact ⟨a, h1, h2, h3⟩
end Go.Proofs.Ytcefbdknoelacaa.Pure

-- YtcefbdknoelacaaQ2
set_option linter.unusedVariables false
set_option linter.unusedSimpArgs false
namespace Go.Proofs.Ytcefbdknoelacaa.Pure
open Go.RowKit Go.Proofs.Ytcefbdknoelacaa.Open Go.Proofs.Ytcefbdknoelacaa.P Go.Proofs.YtcefbdknoelacaaW.PrintWords Go.Proofs.YtcefbdknoelacaaW.PrintLast Go.Proofs.YtcefbdknoelacaaW.PrintMore

abbrev nameOf (l : List S44) (j : Nat) : List UInt8 := (rd_T44 l j).f0.toList
theorem sorted {l : List S44} (h : Fits l 0) : ∀ (b a : Nat), a < b → b < l.length → Op.bytesLess (nameOf l a) (nameOf l b) = true := by
 intro b
 induction b with
 | zero => intro a h1; omega
 | succ b ih =>
  intro a h1 h2
  have h3 := (h (b + 1) (by omega) h2).2 (by omega)
  rw [show (((b + 1 : Nat) : Int) - 1) = (b : Int) by omega] at h3
  rcases Nat.lt_or_ge a b with h4 | h4
  ·exact less_trans (ih a h4 (by omega)) h3
  ·obtain rfl : a = b := by omega
   exact h3
structure Place (l : List S44) (t : List UInt8) (p : Nat) : Prop where
 le : p ≤ l.length
 low : ∀ j, j < p → Op.bytesLess (nameOf l j) t = true
 high : ∀ j, p ≤ j → j < l.length → ¬ Op.bytesLess (nameOf l j) t = true
theorem compare_ev (a b : ByteArray) : strings_Compare.f a b = some (if Op.bytesLess a.toList b.toList = true then -1 else if Op.bytesLess b.toList a.toList = true then 1 else 0) := by
 unfold strings_Compare.f
 split
 ·rfl
 ·split <;> rfl
theorem search_loop (l : List S44) (hl : l.length ≤ 500) (hf : Fits l 0) (t : ByteArray) : ∀ (d i j : Nat), j = i + d → j ≤ l.length → (∀ m, m < i → Op.bytesLess (nameOf l m) t.toList = true) → (∀ m, j ≤ m → m < l.length → ¬ Op.bytesLess (nameOf l m) t.toList = true) →
 ∃ p, Place l t.toList p ∧ Ev (fun k => api_Parameter_string.l0 k l t (l.length : Int) i j) ((p : Int), decide (p < l.length ∧ nameOf l p = t.toList)) := by
 intro d
 induction d using Nat.strongRecOn with
 | _ d ih =>
  intro i j hj hjl hlow hhigh
  rcases Nat.eq_zero_or_pos d with h0 | h0
  ·subst h0
   have hij : j = i := by omega
   subst hij
   refine ⟨j, ⟨hjl, hlow, hhigh⟩, ?_⟩
   refine Ev.step (fun k => by rw [api_Parameter_string.l0]) ?_
   refine Ev.no (by omega) ?_
   by_cases h1 : (j : Int) < (l.length : Int)
   ·refine Ev.yes h1 (Ev.yes (by omega) (Ev.yes h1 ?_))
    unfold telemetry_parameter_1.f
    rw [compare_ev]
    simp only [Option.bind_some]
    refine Ev.is ?_
    have h2 := hhigh j (Nat.le_refl _) (by omega)
    have h3 : ¬ Op.bytesLess (rd_T44 l (j : Int)).f0.toList t.toList = true := h2
    rw [if_neg h3]
    by_cases h4 : nameOf l j = t.toList
    ·have h5 : (rd_T44 l (j : Int)).f0.toList = t.toList := h4
     rw [h5, less_irrefl]
     simp [h4]
     omega
    ·have h5 : Op.bytesLess t.toList (rd_T44 l (j : Int)).f0.toList = true := less_tri h2 h4
     rw [h5]
     simp [h4]
   ·refine Ev.no h1 ?_
    rw [decide_eq_false (by omega)]
    exact Ev.now _
  ·have hm : ∃ m : Nat, wrap64 ((IntKind.u64.wrap (wrap64 ((i : Int) + (j : Int)))) / 2) = (m : Int) ∧ m = (i + j) / 2 := by
    refine ⟨(i + j) / 2, ?_, rfl⟩
    rw [w64 (x := (i : Int) + (j : Int)) (by omega) (by omega), IntWalk.u64_in _ ⟨by omega, by omega⟩, w64 (by omega) (by omega)]
    omega
   obtain ⟨m, hm, hm2⟩ := hm
   have hmi : i ≤ m ∧ m < j := by omega
   rcases Classical.em (Op.bytesLess (nameOf l m) t.toList = true) with h1 | h1
   ·obtain ⟨p, hp, hev⟩ := ih (j - (m + 1)) (by omega) (m + 1) j (by omega) hjl (fun a ha => by
     rcases Nat.lt_or_ge a m with h2 | h2
     ·exact less_trans (sorted hf m a h2 (by omega)) h1
     ·obtain rfl : a = m := by omega
      exact h1) hhigh
    refine ⟨p, hp, ?_⟩
    refine Ev.step (fun k => by rw [api_Parameter_string.l0]) ?_
    rw [hm, w64 (x := (m : Int) + 1) (by omega) (by omega)]
    refine Ev.yes (by omega) (Ev.yes (by omega) (Ev.yes (by omega) ?_))
    unfold telemetry_parameter_1.f
    rw [compare_ev]
    have h2 : Op.bytesLess (rd_T44 l (m : Int)).f0.toList t.toList = true := h1
    rw [if_pos h2]
    simp only [Option.bind_some]
    exact Ev.yes (by omega) hev
   ·obtain ⟨p, hp, hev⟩ := ih (m - i) (by omega) i m (by omega) (by omega) hlow (fun a ha hb => by
     rcases Nat.lt_or_ge m a with h2 | h2
     ·intro h3
      exact h1 (less_trans (sorted hf a m h2 hb) h3)
     ·obtain rfl : a = m := by omega
      exact h1)
    refine ⟨p, hp, ?_⟩
    refine Ev.step (fun k => by rw [api_Parameter_string.l0]) ?_
    rw [hm]
    refine Ev.yes (by omega) (Ev.yes (by omega) (Ev.yes (by omega) ?_))
    unfold telemetry_parameter_1.f
    rw [compare_ev]
    have h2 : ¬ Op.bytesLess (rd_T44 l (m : Int)).f0.toList t.toList = true := h1
    rw [if_neg h2]
    simp only [Option.bind_some]
    exact Ev.no (by split <;> omega) hev

def found (l : List S44) (t : ByteArray) (p : Nat) : ByteArray × Int × Bool × (List (S91)) × (List (S89)) × Bool :=
 if p < l.length ∧ nameOf l p = t.toList then ((rd_T44 l p).f0, (rd_T44 l p).f1, (rd_T44 l p).f2, (rd_T44 l p).f3, (rd_T44 l p).f4, true) else ((⟨#[]⟩ : ByteArray), 0, false, ([] : List (S91)), ([] : List (S89)), false)
theorem parameter_ev (l : List S44) (hl : l.length ≤ 500) (hf : Fits l 0) (t : ByteArray) : ∃ p, Place l t.toList p ∧ Ev (fun k => telemetry_parameter.f k l t) (found l t p) := by
 obtain ⟨p, hp, hev⟩ := search_loop l hl hf t l.length 0 l.length (by omega) (by omega) (fun m h => by omega) (fun m h h' => by omega)
 refine ⟨p, hp, ?_⟩
 unfold telemetry_parameter.f api_Parameter_string.f
 refine Ev.bind hev ?_
 unfold found
 by_cases h : p < l.length ∧ nameOf l p = t.toList
 ·rw [if_pos h]
  exact Ev.yes (by simpa using h) (Ev.yes (by omega) (Ev.yes (by have := h.1; omega) (Ev.now _)))
 ·rw [if_neg h]
  exact Ev.no (by simpa using h) (Ev.now _)
theorem find_ev (l : List S44) (hl : l.length ≤ 500) (hf : Fits l 0) (t : ByteArray) (p : Nat) (hp : Place l t.toList p) : Ev (fun k => perigeeref7_find.f k l t) (found l t p) := by
 unfold perigeeref7_find.f found
 by_cases h : p < l.length ∧ nameOf l p = t.toList
 ·rw [if_pos h]
  have loop : ∀ d i : Nat, i + d = p → Ev (fun k => perigeeref7_find.l0 k t l (l.length : Int) i) ((rd_T44 l p).f0, (rd_T44 l p).f1, (rd_T44 l p).f2, (rd_T44 l p).f3, (rd_T44 l p).f4, true) := by
   intro d
   induction d with
   | zero =>
    intro i hi
    obtain rfl : i = p := by omega
    refine Ev.step (fun k => by rw [perigeeref7_find.l0]) ?_
    exact Ev.yes (by omega) (Ev.yes (by omega) (Ev.yes (by omega) (Ev.yes h.2 (Ev.now _))))
   | succ d ih =>
    intro i hi
    refine Ev.step (fun k => by rw [perigeeref7_find.l0]) ?_
    rw [w64 (x := (i : Int) + 1) (by omega) (by omega)]
    exact Ev.yes (by omega) (Ev.yes (by omega) (Ev.yes (by omega) (Ev.no (less_ne (hp.low i (by omega))) (ih (i + 1) (by omega)))))
  exact loop p 0 (by omega)
 ·rw [if_neg h]
  have none : ∀ j, j < l.length → ¬ nameOf l j = t.toList := by
   intro j hj e
   rcases Nat.lt_trichotomy j p with h1 | h1 | h1
   ·exact less_ne (hp.low j h1) e
   ·subst h1
    exact h ⟨hj, e⟩
   ·have h2 := sorted hf j p h1 hj
    rw [e] at h2
    exact hp.high p (Nat.le_refl _) (by omega) h2
  have loop : ∀ d i : Nat, i + d = l.length → Ev (fun k => perigeeref7_find.l0 k t l (l.length : Int) i) ((⟨#[]⟩ : ByteArray), 0, false, ([] : List (S91)), ([] : List (S89)), false) := by
   intro d
   induction d with
   | zero =>
    intro i hi
    refine Ev.step (fun k => by rw [perigeeref7_find.l0]) ?_
    exact Ev.no (by omega) (Ev.now _)
   | succ d ih =>
    intro i hi
    refine Ev.step (fun k => by rw [perigeeref7_find.l0]) ?_
    rw [w64 (x := (i : Int) + 1) (by omega) (by omega)]
    exact Ev.yes (by omega) (Ev.yes (by omega) (Ev.yes (by omega) (Ev.no (none i (by omega)) (ih (i + 1) (by omega)))))
  exact loop l.length 0 (by omega)

theorem gcd_tmod (a b : Int) : Int.gcd b (Int.tmod a b) = Int.gcd a b := by
 show Nat.gcd b.natAbs (Int.tmod a b).natAbs = Nat.gcd a.natAbs b.natAbs
 rw [Int.natAbs_tmod, Nat.gcd_comm, ← Nat.gcd_rec, Nat.gcd_comm]
theorem tmod_lt (a b : Int) (h : b ≠ 0) : (Int.tmod a b).natAbs < b.natAbs := by
 rw [Int.natAbs_tmod]
 exact Nat.mod_lt _ (by omega)
theorem gcdT_ev : ∀ (n : Nat) (a b : Int), b.natAbs = n → 0 ≤ a → 0 ≤ b → Ev (fun k => kit_Gcd.f k a b) (Int.gcd a b : Int) := by
 intro n
 induction n using Nat.strongRecOn with
 | _ n ih =>
  intro a b hn ha hb
  unfold kit_Gcd.f at ih ⊢
  refine Ev.step (fun k => by rw [kit_Gcd.l0]) ?_
  by_cases h : b > 0
  ·refine Ev.yes h (Ev.no (by omega) ?_)
   have := ih (Int.tmod a b).natAbs (by have := tmod_lt a b (by omega); omega) b (Int.tmod a b) rfl hb (Int.tmod_nonneg _ ha)
   rw [gcd_tmod] at this
   exact this
  ·obtain rfl : b = 0 := by omega
   refine Ev.no (by omega) (Ev.is ?_)
   rw [Int.gcd_zero_right]
   omega
theorem gcdR_ev : ∀ (n : Nat) (a b : Int), b.natAbs = n → a.natAbs ≤ 9223372036854775807 → b.natAbs ≤ 9223372036854775807 → Ev (fun k => perigeeref7_gcd.f k a b) (Int.gcd a b : Int) := by
 intro n
 induction n using Nat.strongRecOn with
 | _ n ih =>
  intro a b hn ha hb
  unfold perigeeref7_gcd.f at ih ⊢
  refine Ev.step (fun k => by rw [perigeeref7_gcd.l0]) ?_
  by_cases h : b = 0
  ·subst h
   refine Ev.yes rfl (Ev.is ?_)
   rw [Int.gcd_zero_right, w64 (by omega) (by omega)]
   unfold mx
   split <;> omega
  ·refine Ev.no h ?_
   have h1 := tmod_lt a b h
   have := ih (Int.tmod a b).natAbs (by omega) b (Int.tmod a b) rfl hb (by omega)
   rw [gcd_tmod] at this
   exact this
def low (a b : Int) : Int × Int := (Int.tdiv a (Int.gcd a b), Int.tdiv b (Int.gcd a b))
theorem tdiv_bd (a b : Int) : (Int.tdiv a b).natAbs ≤ a.natAbs := by
 rw [Int.natAbs_tdiv]
 exact Nat.div_le_self _ _
theorem lowT_ev (a b : Int) (hb : 0 < b) (ha : a.natAbs ≤ 4611686018427387904) (hb' : b.natAbs ≤ 4611686018427387904) : Ev (fun k => kit_Lowest.f k a b) (low a b) := by
 have hg : (Int.gcd a b : Int) ≠ 0 := by
  have : Int.gcd a b ≠ 0 := fun h => by have := (Int.gcd_eq_zero_iff.1 h).2; omega
  omega
 have e : some (wrap64 (Int.tdiv a (Int.gcd a b)), wrap64 (Int.tdiv b (Int.gcd a b))) = some (low a b) := by
  have h1 := tdiv_bd a (Int.gcd a b)
  have h2 := tdiv_bd b (Int.gcd a b)
  rw [w64 (by omega) (by omega), w64 (by omega) (by omega)]
  rfl
 unfold kit_Lowest.f
 refine Ev.split (fun h => ?_) (fun h => ?_)
 ·rw [w64 (x := -a) (by omega) (by omega)]
  refine Ev.bind (gcdT_ev _ (-a) b rfl (by omega) (by omega)) ?_
  rw [Int.neg_gcd]
  exact Ev.no hg (Ev.some e)
 ·refine Ev.bind (gcdT_ev _ a b rfl (by omega) (by omega)) ?_
  exact Ev.no hg (Ev.some e)
theorem lowR_ev (a b : Int) (hb : 0 < b) (ha : a.natAbs ≤ 4611686018427387904) (hb' : b.natAbs ≤ 4611686018427387904) : Ev (fun k => perigeeref7_share.f k a b) (low a b) := by
 have hg : (Int.gcd a b : Int) ≠ 0 := by
  have : Int.gcd a b ≠ 0 := fun h => by have := (Int.gcd_eq_zero_iff.1 h).2; omega
  omega
 have e : some (wrap64 (Int.tdiv a (Int.gcd a b)), wrap64 (Int.tdiv b (Int.gcd a b))) = some (low a b) := by
  have h1 := tdiv_bd a (Int.gcd a b)
  have h2 := tdiv_bd b (Int.gcd a b)
  rw [w64 (by omega) (by omega), w64 (by omega) (by omega)]
  rfl
 unfold perigeeref7_share.f
 refine Ev.bind (gcdR_ev _ a b rfl (by omega) (by omega)) ?_
 exact Ev.no hg (Ev.some e)
theorem low_whole (v d : Int) (hd : 0 < d) : low (v * d) d = (v, 1) := by
 have : (Int.gcd (v * d) d : Int) = d := by
  rw [Int.gcd_mul_left_left]
  omega
 unfold low
 rw [this, Int.mul_tdiv_cancel _ (by omega), Int.tdiv_self (by omega)]

end Go.Proofs.Ytcefbdknoelacaa.Pure

-- YtcefbdknoelacaaQ3
set_option linter.unusedVariables false
set_option linter.unusedSimpArgs false
namespace Go.Proofs.Ytcefbdknoelacaa.Pure
open Go.RowKit Go.Proofs.Ytcefbdknoelacaa.Open Go.Proofs.Ytcefbdknoelacaa.P Go.Proofs.YtcefbdknoelacaaW.PrintWords Go.Proofs.YtcefbdknoelacaaW.PrintLast Go.Proofs.YtcefbdknoelacaaW.PrintMore

abbrev R (p : S44) (j : Nat) : Int := (rd_T91 p.f3 j).f0
abbrev V (p : S44) (j : Nat) : Int := (rd_T91 p.f3 j).f1
def num (p : S44) (x : Int) (j : Nat) : Int := V p j * (R p (j + 1) - R p j) + (x - R p j) * (V p (j + 1) - V p j)
def den (p : S44) (j : Nat) : Int := R p (j + 1) - R p j
def between (p : S44) (x : Int) (j : Nat) : Int × Int := low (num p x j) (den p j)
theorem R_bd {p : S44} (h : Fit p) (j : Nat) (hj : j < p.f3.length) : -16777216 ≤ R p j ∧ R p j ≤ 16777216 := by
 have h1 := (h.2.1 j (by omega) hj).1
 have h2 := span_bd p h.1
 have h3 : R p j = (rd_T91 p.f3 j).f0 := rfl
 omega
theorem V_bd {p : S44} (h : Fit p) (j : Nat) (hj : j < p.f3.length) : -1000000000 ≤ V p j ∧ V p j ≤ 1000000000 := (h.2.1 j (by omega) hj).2.1
theorem R_up {p : S44} (h : Fit p) (j : Nat) (hj : j + 1 < p.f3.length) : R p j < R p (j + 1) := by
 have h1 := (h.2.1 (j + 1) (by omega) hj).2.2 (by omega)
 rw [show (((j + 1 : Nat) : Int) - 1) = (j : Int) by omega] at h1
 exact h1
theorem prod_bd {p : S44} (h : Fit p) (x : Int) (hx : -16777216 ≤ x ∧ x ≤ 16777216) (j : Nat) (hj : j + 1 < p.f3.length) :
 (-33554432000000000 ≤ V p j * (R p (j + 1) - R p j) ∧ V p j * (R p (j + 1) - R p j) ≤ 33554432000000000) ∧ (-67108864000000000 ≤ (x - R p j) * (V p (j + 1) - V p j) ∧ (x - R p j) * (V p (j + 1) - V p j) ≤ 67108864000000000) := by
 have r0 := R_bd h j (by omega)
 have r1 := R_bd h (j + 1) hj
 have v0 := V_bd h j (by omega)
 have v1 := V_bd h (j + 1) hj
 have a := mul_bd (x := V p j) (y := R p (j + 1) - R p j) (A := 1000000000) (B := 33554432) (by omega) (by omega) (by omega) (by omega)
 have b := mul_bd (x := x - R p j) (y := V p (j + 1) - V p j) (A := 33554432) (B := 2000000000) (by omega) (by omega) (by omega) (by omega)
 omega
theorem num_ev {p : S44} (h : Fit p) (x : Int) (hx : -16777216 ≤ x ∧ x ≤ 16777216) (j : Nat) (hj : j + 1 < p.f3.length) (a b : Int) (ha : a = j) (hb : b = (j : Int) + 1) :
 (wrap64 ((wrap64 (((rd_T91 p.f3 a).f1) * (wrap64 (((rd_T91 p.f3 b).f0) - ((rd_T91 p.f3 a).f0))))) + (wrap64 ((wrap64 (x - ((rd_T91 p.f3 a).f0))) * (wrap64 (((rd_T91 p.f3 b).f1) - ((rd_T91 p.f3 a).f1))))))) = num p x j ∧ wrap64 (((rd_T91 p.f3 b).f0) - ((rd_T91 p.f3 a).f0)) = den p j ∧ 0 < den p j ∧ (num p x j).natAbs ≤ 4611686018427387904 ∧ (den p j).natAbs ≤ 4611686018427387904 := by
 subst ha
 have hb' : b = ((j + 1 : Nat) : Int) := by omega
 subst hb'
 have r0 := R_bd h j (by omega)
 have r1 := R_bd h (j + 1) hj
 have v0 := V_bd h j (by omega)
 have v1 := V_bd h (j + 1) hj
 have up := R_up h j hj
 have pb := prod_bd h x hx j hj
 unfold num den
 rw [w64 (x := R p (j + 1) - R p j) (by omega) (by omega), w64 (x := x - R p j) (by omega) (by omega), w64 (x := V p (j + 1) - V p j) (by omega) (by omega)]
 rw [w64 (x := V p j * (R p (j + 1) - R p j)) (by omega) (by omega), w64 (x := (x - R p j) * (V p (j + 1) - V p j)) (by omega) (by omega)]
 rw [w64 (by omega) (by omega)]
 exact ⟨rfl, rfl, by omega, by omega, by omega⟩

theorem at_left {p : S44} (h : Fit p) (j : Nat) (hj : j + 1 < p.f3.length) : between p (R p j) j = (V p j, 1) := by
 have up := R_up h j hj
 unfold between num den
 rw [Int.sub_self, Int.zero_mul, Int.add_zero]
 exact low_whole _ _ (by omega)
theorem at_right {p : S44} (h : Fit p) (j : Nat) (hj : j + 1 < p.f3.length) : between p (R p (j + 1)) j = (V p (j + 1), 1) := by
 have up := R_up h j hj
 unfold between num den
 rw [show V p j * (R p (j + 1) - R p j) + (R p (j + 1) - R p j) * (V p (j + 1) - V p j) = V p (j + 1) * (R p (j + 1) - R p j) by
  rw [Int.mul_comm (R p (j + 1) - R p j), ← Int.add_mul]
  congr 1
  omega]
 exact low_whole _ _ (by omega)

theorem tele_here {p : S44} (h : Fit p) (x : Int) (hx : -16777216 ≤ x ∧ x ≤ 16777216) (w : ByteArray) (j : Nat) (hj : j + 1 < p.f3.length) (ho : j + 2 < p.f3.length → x < R p (j + 1)) :
 Ev (fun k => telemetry_Value.l1 k x w j p.f0 p.f1 p.f2 p.f3 p.f4) ((between p x j).1, (between p x j).2, w, 0) := by
 have hl := h.2.2.1
 refine Ev.step (fun k => by rw [telemetry_Value.l1]) ?_
 rw [w64 (x := (j : Int) + 1) (by omega) (by omega), w64 (x := (j : Int) + 2) (by omega) (by omega)]
 have ok : Ev (fun k => telemetry_Value.j3 k x w j p.f0 p.f1 p.f2 p.f3 p.f4) ((between p x j).1, (between p x j).2, w, 0) := by
  refine Ev.step (fun k => by rw [telemetry_Value.j3]) ?_
  rw [w64 (x := (j : Int) + 1) (by omega) (by omega)]
  obtain ⟨e1, e2, e3, e4, e5⟩ := num_ev h x hx j hj (j : Int) ((j : Int) + 1) rfl rfl
  rw [e1, e2]
  exact Ev.yes (by omega) (Ev.yes (by omega) (Ev.yes (by omega) (Ev.yes (by omega) (Ev.bind (lowT_ev _ _ e3 e4 e5) (Ev.now _)))))
 refine Ev.split (fun h1 => ?_) (fun h1 => ok)
 have h2 := ho (by omega)
 refine Ev.yes (by omega) (Ev.yes (by omega) (Ev.no ?_ ok))
 intro h3
 have h4 : R p (j + 1) ≤ x := h3
 omega
theorem ref_here {p : S44} (h : Fit p) (x : Int) (hx : -16777216 ≤ x ∧ x ≤ 16777216) (w : ByteArray) (j : Nat) (hj : j + 1 < p.f3.length) (ho : j + 2 < p.f3.length → x ≤ R p (j + 1)) :
 Ev (fun k => perigeeref7_Value.l1 k x w ((j : Int) + 1) p.f0 p.f1 p.f2 p.f3 p.f4) ((between p x j).1, (between p x j).2, w, 0) := by
 have hl := h.2.2.1
 refine Ev.step (fun k => by rw [perigeeref7_Value.l1]) ?_
 rw [w64 (x := (p.f3.length : Int) - 1) (by omega) (by omega)]
 have ok : Ev (fun k => perigeeref7_Value.j3 k x w ((j : Int) + 1) p.f0 p.f1 p.f2 p.f3 p.f4) ((between p x j).1, (between p x j).2, w, 0) := by
  refine Ev.step (fun k => by rw [perigeeref7_Value.j3]) ?_
  rw [w64 (x := (j : Int) + 1 - 1) (by omega) (by omega), show (j : Int) + 1 - 1 = j by omega]
  obtain ⟨e1, e2, e3, e4, e5⟩ := num_ev h x hx j hj (j : Int) ((j : Int) + 1) rfl rfl
  rw [e1, e2]
  exact Ev.yes (by omega) (Ev.yes (by omega) (Ev.yes (by omega) (Ev.yes (by omega) (Ev.bind (lowR_ev _ _ e3 e4 e5) (Ev.now _)))))
 refine Ev.split (fun h1 => ?_) (fun h1 => ok)
 have h2 := ho (by omega)
 refine Ev.yes (by omega) (Ev.yes (by omega) (Ev.no ?_ ok))
 intro h3
 have h4 : x > R p (j + 1) := h3
 omega

theorem seg_ev {p : S44} (h : Fit p) (x : Int) (hx : -16777216 ≤ x ∧ x ≤ 16777216) (w : ByteArray) : ∀ (d j : Nat), j + 2 + d = p.f3.length →
 ∃ m, j ≤ m ∧ m + 1 < p.f3.length ∧ (j < m → R p m < x) ∧ (m + 2 < p.f3.length → x ≤ R p (m + 1)) ∧ Ev (fun k => telemetry_Value.l1 k x w j p.f0 p.f1 p.f2 p.f3 p.f4) ((between p x m).1, (between p x m).2, w, 0) ∧ Ev (fun k => perigeeref7_Value.l1 k x w ((j : Int) + 1) p.f0 p.f1 p.f2 p.f3 p.f4) ((between p x m).1, (between p x m).2, w, 0) := by
 have hl := h.2.2.1
 intro d
 induction d with
 | zero =>
  intro j hj
  exact ⟨j, by omega, by omega, fun h => by omega, fun h => by omega, tele_here h x hx w j (by omega) (fun h => by omega), ref_here h x hx w j (by omega) (fun h => by omega)⟩
 | succ d ih =>
  intro j hj
  have advT : ∀ r, R p (j + 1) ≤ x → Ev (fun k => telemetry_Value.l1 k x w ((j + 1 : Nat) : Int) p.f0 p.f1 p.f2 p.f3 p.f4) r → Ev (fun k => telemetry_Value.l1 k x w j p.f0 p.f1 p.f2 p.f3 p.f4) r := by
   intro r h1 h2
   refine Ev.step (fun k => by rw [telemetry_Value.l1]) ?_
   rw [w64 (x := (j : Int) + 1) (by omega) (by omega), w64 (x := (j : Int) + 2) (by omega) (by omega)]
   refine Ev.yes (by omega) (Ev.yes (by omega) (Ev.yes (by omega) (Ev.yes ?_ h2)))
   exact h1
  rcases Int.lt_trichotomy x (R p (j + 1)) with h1 | h1 | h1
  ·exact ⟨j, by omega, by omega, fun h => by omega, fun _ => by omega, tele_here h x hx w j (by omega) (fun _ => h1), ref_here h x hx w j (by omega) (fun _ => by omega)⟩
  ·refine ⟨j, by omega, by omega, fun h => by omega, fun _ => by omega, ?_, ref_here h x hx w j (by omega) (fun _ => by omega)⟩
   refine advT _ (by omega) ?_
   have e1 := at_right h j (by omega)
   have e2 := at_left h (j + 1) (by omega)
   rw [← h1] at e1 e2
   have := tele_here h x hx w (j + 1) (by omega) (fun h2 => by have := R_up h (j + 1) (by omega); omega)
   rw [e2] at this
   rw [e1]
   exact this
  ·obtain ⟨m, m1, m2, m3, m4, m5, m6⟩ := ih (j + 1) (by omega)
   refine ⟨m, by omega, m2, fun hm => ?_, m4, advT _ (by omega) m5, ?_⟩
   ·rcases Nat.lt_or_ge (j + 1) m with h2 | h2
    ·exact m3 h2
    ·obtain rfl : m = j + 1 := by omega
     exact h1
   ·refine Ev.step (fun k => by rw [perigeeref7_Value.l1]) ?_
    rw [w64 (x := (p.f3.length : Int) - 1) (by omega) (by omega), w64 (x := (j : Int) + 1 + 1) (by omega) (by omega)]
    refine Ev.yes (by omega) (Ev.yes (by omega) (Ev.yes (by omega) (Ev.yes ?_ m6)))
    exact h1

theorem mean_ev {p : S44} (h : Fit p) (x : Int) (hx : -16777216 ≤ x ∧ x ≤ 16777216) : ∀ (d i : Nat) (w : ByteArray), i + d = p.f4.length →
 ∃ w', (p.f3.length = 0 → Ev (fun k => telemetry_Value.l0 k x w p.f4 (p.f4.length : Int) i p.f0 p.f1 p.f2 p.f3 p.f4) (x, 1, w', 0) ∧ Ev (fun k => perigeeref7_Value.l0 k x w p.f4 (p.f4.length : Int) i p.f0 p.f1 p.f2 p.f3 p.f4) (x, 1, w', 0)) ∧
  (p.f3.length ≠ 0 → ∃ m, m + 1 < p.f3.length ∧ (0 < m → R p m < x) ∧ (m + 2 < p.f3.length → x ≤ R p (m + 1)) ∧ Ev (fun k => telemetry_Value.l0 k x w p.f4 (p.f4.length : Int) i p.f0 p.f1 p.f2 p.f3 p.f4) ((between p x m).1, (between p x m).2, w', 0) ∧ Ev (fun k => perigeeref7_Value.l0 k x w p.f4 (p.f4.length : Int) i p.f0 p.f1 p.f2 p.f3 p.f4) ((between p x m).1, (between p x m).2, w', 0)) := by
 have hl := h.2.2.1
 have h1 := h.2.2.2.1
 have h4 := h.2.2.2.2
 intro d
 induction d with
 | zero =>
  intro i w hi
  refine ⟨w, fun h0 => ⟨?_, ?_⟩, fun h0 => ?_⟩
  ·exact Ev.step (fun k => by rw [telemetry_Value.l0]) (Ev.no (by omega) (Ev.yes (by omega) (Ev.now _)))
  ·exact Ev.step (fun k => by rw [perigeeref7_Value.l0]) (Ev.no (by omega) (Ev.yes (by omega) (Ev.now _)))
  ·obtain ⟨m, _, m2, m3, m4, m5, m6⟩ := seg_ev h x hx w (p.f3.length - 2) 0 (by omega)
   refine ⟨m, m2, m3, m4, ?_, ?_⟩
   ·refine Ev.step (fun k => by rw [telemetry_Value.l0]) ?_
    exact Ev.no (by omega) (Ev.no (by omega) m5)
   ·refine Ev.step (fun k => by rw [perigeeref7_Value.l0]) ?_
    exact Ev.no (by omega) (Ev.no (by omega) m6)
 | succ d ih =>
  intro i w hi
  obtain ⟨w', a, b⟩ := ih (i + 1) (if (rd_T89 p.f4 i).f0 = x then (rd_T89 p.f4 i).f1 else w) (by omega)
  have sT : ∀ r, Ev (fun k => telemetry_Value.l0 k x (if (rd_T89 p.f4 i).f0 = x then (rd_T89 p.f4 i).f1 else w) p.f4 (p.f4.length : Int) ((i + 1 : Nat) : Int) p.f0 p.f1 p.f2 p.f3 p.f4) r → Ev (fun k => telemetry_Value.l0 k x w p.f4 (p.f4.length : Int) i p.f0 p.f1 p.f2 p.f3 p.f4) r := by
   intro r hr
   refine Ev.step (fun k => by rw [telemetry_Value.l0]) ?_
   refine Ev.yes (by omega) (Ev.yes (by omega) (Ev.yes (by omega) (Ev.split (fun h => ?_) (fun h => ?_))))
   ·refine Ev.step (fun k => by rw [telemetry_Value.j1]) ?_
    rw [w64 (x := (i : Int) + 1) (by omega) (by omega)]
    rw [if_pos h] at hr; exact hr
   ·refine Ev.step (fun k => by rw [telemetry_Value.j1]) ?_
    rw [w64 (x := (i : Int) + 1) (by omega) (by omega)]
    rw [if_neg h] at hr; exact hr
  have sR : ∀ r, Ev (fun k => perigeeref7_Value.l0 k x (if (rd_T89 p.f4 i).f0 = x then (rd_T89 p.f4 i).f1 else w) p.f4 (p.f4.length : Int) ((i + 1 : Nat) : Int) p.f0 p.f1 p.f2 p.f3 p.f4) r → Ev (fun k => perigeeref7_Value.l0 k x w p.f4 (p.f4.length : Int) i p.f0 p.f1 p.f2 p.f3 p.f4) r := by
   intro r hr
   refine Ev.step (fun k => by rw [perigeeref7_Value.l0]) ?_
   refine Ev.yes (by omega) (Ev.yes (by omega) (Ev.yes (by omega) (Ev.split (fun h => ?_) (fun h => ?_))))
   ·refine Ev.step (fun k => by rw [perigeeref7_Value.j1]) ?_
    rw [w64 (x := (i : Int) + 1) (by omega) (by omega)]
    rw [if_pos h] at hr; exact hr
   ·refine Ev.step (fun k => by rw [perigeeref7_Value.j1]) ?_
    rw [w64 (x := (i : Int) + 1) (by omega) (by omega)]
    rw [if_neg h] at hr; exact hr
  refine ⟨w', fun h0 => ⟨sT _ (a h0).1, sR _ (a h0).2⟩, fun h0 => ?_⟩
  obtain ⟨m, m2, m3, m4, m5, m6⟩ := b h0
  exact ⟨m, m2, m3, m4, sT _ m5, sR _ m6⟩

theorem value_ev (l : List S44) (h : OkL 80 ok44 l) (t : ByteArray) (x : Int) : ∃ a b w c, Ev (fun k => telemetry_Value.f k l t x) (a, b, w, c) ∧ Ev (fun k => perigeeref7_Value.f k l t x) (a, b, w, c) ∧ (c ≠ 0 → a = 0 ∧ b = 0) ∧
 (c = 0 → Ev (fun k => telemetry_CheckParameters.f k l) 0 ∧ ∃ p, l.length ≤ 500 ∧ Fits l 0 ∧ p < l.length ∧ nameOf l p = t.toList ∧ Place l t.toList p ∧ (lo (rd_T44 l p) ≤ x ∧ x ≤ hi (rd_T44 l p)) ∧ ((rd_T44 l p).f3.length = 0 → a = x ∧ b = 1) ∧
  ((rd_T44 l p).f3.length ≠ 0 → ∃ m, m + 1 < (rd_T44 l p).f3.length ∧ (0 < m → R (rd_T44 l p) m < x) ∧ (m + 2 < (rd_T44 l p).f3.length → x ≤ R (rd_T44 l p) (m + 1)) ∧ (a, b) = between (rd_T44 l p) x m)) := by
 obtain ⟨c, c1, c2, c3⟩ := params_ev l h
 unfold telemetry_Value.f perigeeref7_Value.f
 by_cases hc : c = 0
 ·subst hc
  obtain ⟨hl, hf⟩ := c3 rfl
  obtain ⟨p, hp, ep⟩ := parameter_ev l hl hf t
  have fp := find_ev l hl hf t p hp
  unfold found at ep fp
  by_cases hq : p < l.length ∧ nameOf l p = t.toList
  ·rw [if_pos hq] at ep fp
   have fit := (hf p (by omega) hq.1).1
   generalize hz : rd_T44 l (p : Int) = z at ep fp fit
   have sp := span_bd z fit.1
   by_cases hx : lo z ≤ x ∧ x ≤ hi z
   ·obtain ⟨w', a, b⟩ := mean_ev fit x (by omega) z.f4.length 0 ⟨#[]⟩ (by omega)
    have front : ∀ r, Ev (fun k => telemetry_Value.l0 k x ⟨#[]⟩ z.f4 (z.f4.length : Int) 0 z.f0 z.f1 z.f2 z.f3 z.f4) r ∧ Ev (fun k => perigeeref7_Value.l0 k x ⟨#[]⟩ z.f4 (z.f4.length : Int) 0 z.f0 z.f1 z.f2 z.f3 z.f4) r →
     Ev (fun k => (telemetry_CheckParameters.f k l).bind fun t144 => (if t144 = 0 then ((telemetry_parameter.f k l t).bind fun bt145 => (if bt145.2.2.2.2.2 = true then ((telemetry_span.f bt145.1 bt145.2.1 bt145.2.2.1 bt145.2.2.2.1 bt145.2.2.2.2.1).bind fun bt156 => ((kit_In.f x bt156.1 bt156.2).bind fun t158 => (if t158 = true then (telemetry_Value.l0 k x (⟨#[]⟩ : ByteArray) bt145.2.2.2.2.1 (bt145.2.2.2.2.1.length : Int) 0 bt145.1 bt145.2.1 bt145.2.2.1 bt145.2.2.2.1 bt145.2.2.2.2.1) else (some (0, 0, (⟨#[]⟩ : ByteArray), 1))))) else (some (0, 0, (⟨#[]⟩ : ByteArray), 9)))) else (some (0, 0, (⟨#[]⟩ : ByteArray), t144)))) r ∧
     Ev (fun k => (perigeeref7_CheckParameters.f k l).bind fun t203 => (if t203 = 0 then ((perigeeref7_find.f k l t).bind fun bt204 => (if bt204.2.2.2.2.2 = true then ((perigeeref7_isRaw.f bt204.1 bt204.2.1 bt204.2.2.1 bt204.2.2.2.1 bt204.2.2.2.2.1 x).bind fun t215 => (if t215 = true then (perigeeref7_Value.l0 k x (⟨#[]⟩ : ByteArray) bt204.2.2.2.2.1 (bt204.2.2.2.2.1.length : Int) 0 bt204.1 bt204.2.1 bt204.2.2.1 bt204.2.2.2.1 bt204.2.2.2.2.1) else (some (0, 0, (⟨#[]⟩ : ByteArray), 1)))) else (some (0, 0, (⟨#[]⟩ : ByteArray), 9)))) else (some (0, 0, (⟨#[]⟩ : ByteArray), t203)))) r := by
     intro r ⟨h1, h2⟩
     constructor
     ·refine Ev.bind c1 (Ev.yes rfl (Ev.bind ep (Ev.yes rfl ?_)))
      simp only [span_ev z fit.1, Option.bind_some, in_ev]
      exact Ev.yes (by simpa using hx) h1
     ·refine Ev.bind c2 (Ev.yes rfl (Ev.bind fp (Ev.yes rfl ?_)))
      simp only [isRaw_ev z fit.1, Option.bind_some]
      exact Ev.yes (by simpa using hx) h2
    by_cases h0 : z.f3.length = 0
    ·obtain ⟨f1, f2⟩ := front _ (a h0)
     refine ⟨_, _, _, _, f1, f2, fun h => absurd rfl h, fun _ => ⟨c1, p, hl, hf, hq.1, hq.2, hp, ?_⟩⟩
     rw [hz]
     exact ⟨hx, fun _ => ⟨rfl, rfl⟩, fun h => absurd h0 h⟩
    ·obtain ⟨m, m2, m3, m4, m5, m6⟩ := b h0
     obtain ⟨f1, f2⟩ := front _ ⟨m5, m6⟩
     refine ⟨_, _, _, _, f1, f2, fun h => absurd rfl h, fun _ => ⟨c1, p, hl, hf, hq.1, hq.2, hp, ?_⟩⟩
     rw [hz]
     exact ⟨hx, fun h => absurd h h0, fun _ => ⟨m, m2, m3, m4, rfl⟩⟩
   ·refine ⟨0, 0, ⟨#[]⟩, 1, ?_, ?_, fun _ => ⟨rfl, rfl⟩, fun h => absurd h (by decide)⟩
    ·refine Ev.bind c1 (Ev.yes rfl (Ev.bind ep (Ev.yes rfl ?_)))
     simp only [span_ev z fit.1, Option.bind_some, in_ev]
     exact Ev.no (by simpa using hx) (Ev.now _)
    ·refine Ev.bind c2 (Ev.yes rfl (Ev.bind fp (Ev.yes rfl ?_)))
     simp only [isRaw_ev z fit.1, Option.bind_some]
     exact Ev.no (by simpa using hx) (Ev.now _)
  ·rw [if_neg hq] at ep fp
   refine ⟨0, 0, ⟨#[]⟩, 9, ?_, ?_, fun _ => ⟨rfl, rfl⟩, fun h => absurd h (by decide)⟩
   ·exact Ev.bind c1 (Ev.yes rfl (Ev.bind ep (Ev.no (by simp) (Ev.now _))))
   ·exact Ev.bind c2 (Ev.yes rfl (Ev.bind fp (Ev.no (by simp) (Ev.now _))))
 ·exact ⟨0, 0, ⟨#[]⟩, c, Ev.bind c1 (Ev.no hc (Ev.now _)), Ev.bind c2 (Ev.no hc (Ev.now _)), fun _ => ⟨rfl, rfl⟩, fun h => absurd h hc⟩
end Go.Proofs.Ytcefbdknoelacaa.Pure

-- YtcefbdknoelacaaStTelemetryValuesMatchSpec
set_option linter.unusedVariables false
namespace Go.Proofs.Ytcefbdknoelacaa.P
open Go.RowKit Go.Proofs.Ytcefbdknoelacaa.Open Go.Proofs.Ytcefbdknoelacaa.P Go.Proofs.YtcefbdknoelacaaW.PrintWords Go.Proofs.YtcefbdknoelacaaW.PrintLast Go.Proofs.YtcefbdknoelacaaW.PrintMore

def perigeelaw7_TelemetryValuesMatchSpec.Law : Prop := ∀ (l0 : List (S44)) (a1 : ByteArray) (a2 : Int), (OkL 80 ok44) l0 → OkS a1 → OkI a2 → ∃ k, perigeelaw7_TelemetryValuesMatchSpec.f k l0 a1 a2 = some true
end Go.Proofs.Ytcefbdknoelacaa.P

-- YtcefbdknoelacaaPureTelemetryValuesMatchSpec
set_option linter.unusedVariables false
namespace Go.Proofs.Ytcefbdknoelacaa.Pure
open Go.RowKit Go.Proofs.Ytcefbdknoelacaa.Open Go.Proofs.Ytcefbdknoelacaa.P Go.Proofs.YtcefbdknoelacaaW.PrintWords Go.Proofs.YtcefbdknoelacaaW.PrintLast Go.Proofs.YtcefbdknoelacaaW.PrintMore

theorem awake_ev : Ev (fun k => perigeelaw7_awake.f k) true := Ev.of (fun k => perigeelaw7_awake.mono k) (k := 40) (by decide +kernel)
theorem TelemetryValuesMatchSpec : perigeelaw7_TelemetryValuesMatchSpec.Law := by
 intro l0 a1 a2 h0 h1 h2
 refine Ev.rounds (g := fun k => perigeelaw7_TelemetryValuesMatchSpec.f k l0 a1 a2) ?_
 unfold perigeelaw7_TelemetryValuesMatchSpec.f
 obtain ⟨a, b, w, c, e1, e2, _, _⟩ := value_ev l0 h0 a1 a2
 obtain ⟨d, d1, d2, _⟩ := params_ev l0 h0
 exact Ev.bind e1 (Ev.bind e2 (Ev.bind d1 (Ev.bind d2 (Ev.yes rfl (Ev.yes rfl (Ev.yes (by simp) (Ev.yes rfl (Ev.bind awake_ev (Ev.now _)))))))))
end Go.Proofs.Ytcefbdknoelacaa.Pure

-- YtcefbdknoelacaaLawTelemetryValuesMatchSpec
namespace Go.Proofs.Ytcefbdknoelacaa.telemetryValuesMatchSpec
open Go.ChangeShapes Go.WideShapes Go.ChangeAt Go.RowKit Go.Proofs.Ytcefbdknoelacaa.Open Go.Proofs.Ytcefbdknoelacaa.P
open Go.ChangeMaps (open_string shut_string)
set_option linter.unusedVariables false
theorem own : ownKnob Try.prog.godebug = none := by kernel_rfl
theorem laidOut : laidOutB Try.prog = true := by kernel_rfl
set_option maxRecDepth 100000 in
theorem lifted (os : Os) (started : os.Started) (H : Type) (enc : TypeId × Value → H) :
 ReturnsInHanded {} Try.checked os 3 .any (Rows.telemetryValuesMatchSpecSpec.pre6 enc Try.prog Try.f3 Rows.telemetryValuesMatchSpecRow.domain false) (Rows.telemetryValuesMatchSpecSpec.post enc Try.prog Try.f3 false true false false) := by
 refine returnsInHanded_of_change_sized (C := Try.checked) own started (by kernel_rfl) Try.func3
  (ChangeSpec.witness6 (enc := enc) (C := Try.checked) false ⟨#[], #[.slice none 0 0, .string ByteArray.empty, .int .i64 0], []⟩ 8 (by kernel_rfl) (by kernel_rfl) (by kernel_rfl) (by kernel_rfl)) ?_
 intro W base args ds gs before hval0 hW hcnd hsz0 _
 have hsz : (DataW.weightsEach Try.prog (Try.f3.params.toList ++ Rows.telemetryValuesMatchSpecSpec.plain.varTypes Try.prog) (ds ++ gs)).all (· ≤ reachBytes) = true := hsz0
 have hval : ∀ (j : Nat) t v, Try.f3.params[j]? = some t → args[j]? = some v → Value.okWide Try.prog W .any base t v := hval0
 have hW' := hW
 obtain ⟨p, q, hA0, hV, rfl, hfz, hnd⟩ := hW
 have hA : DataW.TrodAll enc Try.prog W 0 (fun _ => true) true Try.f3.params.toList args.toList ds p := hA0
 rw [Try.params3] at hA hval hsz
 obtain ⟨v0, vs0, d0, ds0, p0, q0, hargs, rfl, rfl, h0, r0⟩ := trodAll_cons hA
 obtain ⟨v1, vs1, d1, ds1, p1, q1, rfl, rfl, rfl, h1, r1⟩ := trodAll_cons r0
 obtain ⟨v2, vs2, d2, ds2, p2, q2, rfl, rfl, rfl, h2, r2⟩ := trodAll_cons r1
 obtain ⟨rfl, rfl, rfl⟩ := trodAll_nil r2
 obtain rfl : args = #[v0, v1, v2] := by cases args; simp_all
 obtain ⟨rfl, rfl⟩ := trodVars_none hV
 have k0 := h0
 have lt0 : ∀ x ∈ p0, x.block < W.heap.size := by obtain ⟨m, hm⟩ := k0; exact DataW.trod_lt m _ _ _ hm
 obtain ⟨A0, len0, c0, rfl⟩ := okWide_slice Try.underlying22 (hval 0 22 v0 rfl rfl)
 obtain ⟨l0, rfl, hc0, hr0, y0⟩ := param_slice (d := k44) (ok := (OkL 80 ok44)) (j := 0) hsz rfl rfl h0 (opens_slice Try.underlying22 (by kernel_rfl) (by kernel_rfl) opens44)
 have k1 := h1
 have lt1 : ∀ x ∈ p1, x.block < W.heap.size := by obtain ⟨m, hm⟩ := k1; exact DataW.trod_lt m _ _ _ hm
 obtain ⟨a1, rfl⟩ := okWide_string Try.underlying9 (hval 1 9 v1 rfl rfl)
 obtain ⟨b1, e1, y1⟩ := param_any (d := Go.Proofs.YtcefbdknoelacaaW.PrintWords.Kd.string) (ok := OkS) (j := 1) hsz rfl rfl h1 (opens_string Try.underlying9)
 obtain rfl : a1 = b1 := by simpa [Value.cells, Go.Proofs.YtcefbdknoelacaaW.PrintWords.Kd.string, Go.Proofs.YtcefbdknoelacaaW.PrintWords.Kd.scalar] using e1
 have k2 := h2
 have lt2 : ∀ x ∈ p2, x.block < W.heap.size := by obtain ⟨m, hm⟩ := k2; exact DataW.trod_lt m _ _ _ hm
 obtain ⟨a2, rfl⟩ := okWide_int Try.underlying3 (hval 2 3 v2 rfl rfl)
 obtain ⟨b2, e2, y2⟩ := param_any (d := (Go.Proofs.YtcefbdknoelacaaW.PrintWords.Kd.int .i64)) (ok := OkI) (j := 2) hsz rfl rfl h2 (opens_i64 Try.underlying3)
 obtain rfl : a2 = b2 := by simpa [Value.cells, Go.Proofs.YtcefbdknoelacaaW.PrintWords.Kd.int, Go.Proofs.YtcefbdknoelacaaW.PrintWords.Kd.scalar] using e2
 clear hA0 hval0 hsz0 hsz
 obtain ⟨k, hk⟩ := Pure.TelemetryValuesMatchSpec l0 a1 a2 y0 y1 y2
 refine (perigeelaw7_TelemetryValuesMatchSpec.calls (r := true) (w := W) (hr0 := hr0) (hc0 := hc0) (h := hk)).mono fun e W' ⟨he, bel0⟩ => ?_
 have bel : Below W.heap.size W W' := bel0
 subst he
 exact ⟨_, rfl, _, _, _, [], _, [], hW', trodAll_mk1 (shut_bool Try.underlying4 _), (trodAll_cons_mk (Below.trod laidOut (by kernel_rfl) (of_decide_eq_true (by kernel_rfl)) k0 bel lt0) (trodAll_cons_mk (Below.trod laidOut (by kernel_rfl) (of_decide_eq_true (by kernel_rfl)) k1 bel lt1) (trodAll_cons_mk (Below.trod laidOut (by kernel_rfl) (of_decide_eq_true (by kernel_rfl)) k2 bel lt2) trodAll_mk0))), rfl, bel.frame _, fun h => by cases h⟩
end Go.Proofs.Ytcefbdknoelacaa.telemetryValuesMatchSpec
