/- LimitsMatchSpec returns true for every input: CheckLimits, CheckSamples and StateOf answer as the reference's, with all errors; no condition. -/
import Derived.Below
import Derived.Carry
import Derived.ChangeArms
import Derived.ChangeOld
import Derived.ChangeSlices
import Derived.DataElems
import Derived.DataReads
import Derived.Lib.Strings
import Derived.OpenShut
import Derived.ProofKit
import Derived.ShutString
import Derived.SizedLaws
import Derived.Test.YtodnfnnfjnnhmaaRows
import Derived.Test.YtodnfnnfjnnhmaaWMore
import Derived.WalkKit
import Derived.Test.YtodnfnnfjnnhmaaCLimitsMatchSpec3
-- YtodnfnnfjnnhmaaF18
namespace Go.Proofs.Ytodnfnnfjnnhmaa.P
open Go.RowKit Go.Proofs.YtodnfnnfjnnhmaaW.PrintWords Go.Proofs.YtodnfnnfjnnhmaaW.PrintLast Go.Proofs.YtodnfnnfjnnhmaaW.PrintMore
attribute [local go_sem] max2_int min2_int max_two min_two max_three min_three max_four min_four Go.Proofs.Ytodnfnnfjnnhmaa.Strs.leqS Go.Proofs.Ytodnfnnfjnnhmaa.Strs.gtrS Go.Proofs.Ytodnfnnfjnnhmaa.Strs.geqS   -- for this text's walks alone
set_option linter.unusedVariables false
set_option linter.unusedSimpArgs false

/-! ### perigeelaw8_awake: function 17 -/
def perigeelaw8_awake.f (k : Nat)  : Option (Bool) := (monitor_StateOf.f k (⟨#[97]⟩ : ByteArray) 0 0 0 0 1 1 0 5).bind fun bt165 => (if bt165.2 = 0 then (some (bt165.1 == 2)) else (some false))
theorem perigeelaw8_awake.mono : ∀ k, LeO (perigeelaw8_awake.f k ) (perigeelaw8_awake.f (k + 1) ) := by
  intro  k
  unfold perigeelaw8_awake.f
  repeat' first
      | (with_reducible exact monitor_StateOf.mono _ _ _ _ _ _ _ _ _ _)
      | (with_reducible exact LeO.refl _)
      | (with_reducible exact LeO.none _)
      | (with_reducible refine LeO.ite ?_ ?_)
      | (with_reducible refine LeO.bind ?_ (fun _ => ?_))
      | exact monitor_StateOf.mono _ _ _ _ _ _ _ _ _ _
      | exact LeO.none _
      | refine LeO.ite ?_ ?_
      | refine LeO.bind ?_ (fun _ => ?_)
set_option maxHeartbeats 8000000 in
set_option maxRecDepth 100000 in
theorem perigeelaw8_awake.calls (k : Nat)  (r : Bool) (w : World) (h : perigeelaw8_awake.f k  = some r) :
    Calls Try.prog 17 #[] w fun e w' => e = .returned (.bool r) ∧ Below w.heap.size w w' := by
  have hu25 := Try.underlying25
  have HB := Aside0.mk (Below.refl w.heap.size w)
  have H : ((monitor_StateOf.f k (⟨#[97]⟩ : ByteArray) 0 0 0 0 1 1 0 5).bind fun bt165 => (if bt165.2 = 0 then (some (bt165.1 == 2)) else (some false))) = some r := h
  clear h
  replace H := Option.bind_eq_some_iff.mp H
  obtain ⟨⟨t165, t166⟩, A10, H⟩ := H
  replace H : (if t166 = 0 then (some (t165 == 2)) else (some false)) = some r := H
  have A1 := Aside0.mk A10
  clear A10
  by_cases c2 : t166 = 0
  · rw [if_pos c2] at H
    have c2b0 : (t166 == 0) = true := beq_iff_eq.mpr c2
    have c2b1 : (t166 != 0) = false := bne_eq_false_iff_eq.mpr c2
    clear c2
    obtain rfl := Option.some.inj H
    go_enter Try.func17, Try.ntmps17
    go_wp2_with (first | ((with_reducible refine gate_callee (f := 11) rfl ?_); refine goesL_ (some 5) rfl rfl Try.func11 (by kernel_rfl) rfl #[.agg #[.string (⟨#[97]⟩ : ByteArray), .int .i64 0, .int .i64 0, .int .i64 0, .int .i64 0, .int .i64 1, .int .i64 1, .int .i64 0], .int .i64 5] rfl (by (try simp only [List.map_toArray, List.map_cons, List.map_nil]); first | done | rfl | (simp only [List.length_drop, List.length_take]; rfl)) ?_; (with_reducible refine (monitor_StateOf.calls k (⟨#[97]⟩ : ByteArray) 0 0 0 0 1 1 0 5 t165 t166 _ A1.out).mono ?_); rintro e w3 ⟨rfl, hb⟩; refine ⟨_, rfl, ?_⟩; have n0_ := Aside0.mk (below_step (by repeat (first | (with_reducible first | exact HB.out | apply below_alloc | apply pw_below_drewN | apply below_drew1) | exact HB.out)) hb); clear HB; have HB := n0_; clear n0_; (try clear hb); (try clear hb2); (try clear hk); (try clear hi)))
    go_ret
    exact ⟨by first | rfl | (simp [errW_none, errW_some] <;> rfl) | (simp [*, errW_none, errW_some] <;> rfl), by repeat (first | (with_reducible first | exact HB.out | apply below_alloc | apply pw_below_drewN | apply below_drew1) | exact HB.out)⟩
  · rw [if_neg c2] at H
    have c2b0 : (t166 == 0) = false := beq_eq_false_iff_ne.mpr c2
    have c2b1 : (t166 != 0) = true := bne_iff_ne.mpr c2
    obtain rfl := Option.some.inj H
    go_enter Try.func17, Try.ntmps17
    go_wp2_with (first | ((with_reducible refine gate_callee (f := 11) rfl ?_); refine goesL_ (some 5) rfl rfl Try.func11 (by kernel_rfl) rfl #[.agg #[.string (⟨#[97]⟩ : ByteArray), .int .i64 0, .int .i64 0, .int .i64 0, .int .i64 0, .int .i64 1, .int .i64 1, .int .i64 0], .int .i64 5] rfl (by (try simp only [List.map_toArray, List.map_cons, List.map_nil]); first | done | rfl | (simp only [List.length_drop, List.length_take]; rfl)) ?_; (with_reducible refine (monitor_StateOf.calls k (⟨#[97]⟩ : ByteArray) 0 0 0 0 1 1 0 5 t165 t166 _ A1.out).mono ?_); rintro e w4 ⟨rfl, hb⟩; refine ⟨_, rfl, ?_⟩; have n0_ := Aside0.mk (below_step (by repeat (first | (with_reducible first | exact HB.out | apply below_alloc | apply pw_below_drewN | apply below_drew1) | exact HB.out)) hb); clear HB; have HB := n0_; clear n0_; (try clear hb); (try clear hb2); (try clear hk); (try clear hi)))
    go_ret
    exact ⟨by first | rfl | (simp [errW_none, errW_some] <;> rfl) | (simp [*, errW_none, errW_some] <;> rfl), by repeat (first | (with_reducible first | exact HB.out | apply below_alloc | apply pw_below_drewN | apply below_drew1) | exact HB.out)⟩

end Go.Proofs.Ytodnfnnfjnnhmaa.P

-- YtodnfnnfjnnhmaaF19
namespace Go.Proofs.Ytodnfnnfjnnhmaa.P
open Go.RowKit Go.Proofs.YtodnfnnfjnnhmaaW.PrintWords Go.Proofs.YtodnfnnfjnnhmaaW.PrintLast Go.Proofs.YtodnfnnfjnnhmaaW.PrintMore
attribute [local go_sem] max2_int min2_int max_two min_two max_three min_three max_four min_four Go.Proofs.Ytodnfnnfjnnhmaa.Strs.leqS Go.Proofs.Ytodnfnnfjnnhmaa.Strs.gtrS Go.Proofs.Ytodnfnnfjnnhmaa.Strs.geqS   -- for this text's walks alone
set_option linter.unusedVariables false
set_option linter.unusedSimpArgs false

/-! ### perigeelaw8_LimitsMatchSpec: function 3 -/
def perigeelaw8_LimitsMatchSpec.f (k : Nat) (l0 : List (S25)) (l1 : List (S35)) (a2_0 : ByteArray) (a2_1 : Int) (a2_2 : Int) (a2_3 : Int) (a2_4 : Int) (a2_5 : Int) (a2_6 : Int) (a2_7 : Int) (a3 : Int) : Option (Bool) := (monitor_StateOf.f k a2_0 a2_1 a2_2 a2_3 a2_4 a2_5 a2_6 a2_7 a3).bind fun bt168 => ((perigeeref8_StateOf.f k a2_0 a2_1 a2_2 a2_3 a2_4 a2_5 a2_6 a2_7 a3).bind fun bt170 => ((monitor_CheckLimits.f k l0).bind fun t172 => ((perigeeref8_CheckLimits.f k l0).bind fun t173 => (if t172 = t173 then ((monitor_CheckSamples.f k l1).bind fun t174 => ((perigeeref8_CheckSamples.f k l1).bind fun t175 => (if t174 = t175 then (if bt168.1 = bt170.1 then (if bt168.2 = bt170.2 then ((perigeelaw8_awake.f k).bind fun t176 => (some t176)) else (some false)) else (some false)) else (some false)))) else (some false)))))
theorem perigeelaw8_LimitsMatchSpec.mono : ∀ a0 a1 a2 a3 a4 a5 a6 a7 a8 a9 a10 k, LeO (perigeelaw8_LimitsMatchSpec.f k a0 a1 a2 a3 a4 a5 a6 a7 a8 a9 a10) (perigeelaw8_LimitsMatchSpec.f (k + 1) a0 a1 a2 a3 a4 a5 a6 a7 a8 a9 a10) := by
  intro a0 a1 a2 a3 a4 a5 a6 a7 a8 a9 a10 k
  unfold perigeelaw8_LimitsMatchSpec.f
  repeat' first
      | (with_reducible exact monitor_CheckLimits.mono _ _)
      | (with_reducible exact monitor_CheckSamples.mono _ _)
      | (with_reducible exact monitor_StateOf.mono _ _ _ _ _ _ _ _ _ _)
      | (with_reducible exact perigeelaw8_awake.mono _)
      | (with_reducible exact perigeeref8_CheckLimits.mono _ _)
      | (with_reducible exact perigeeref8_CheckSamples.mono _ _)
      | (with_reducible exact perigeeref8_StateOf.mono _ _ _ _ _ _ _ _ _ _)
      | (with_reducible exact LeO.refl _)
      | (with_reducible exact LeO.none _)
      | (with_reducible refine LeO.ite ?_ ?_)
      | (with_reducible refine LeO.bind ?_ (fun _ => ?_))
      | exact monitor_CheckLimits.mono _ _
      | exact monitor_CheckSamples.mono _ _
      | exact monitor_StateOf.mono _ _ _ _ _ _ _ _ _ _
      | exact perigeelaw8_awake.mono _
      | exact perigeeref8_CheckLimits.mono _ _
      | exact perigeeref8_CheckSamples.mono _ _
      | exact perigeeref8_StateOf.mono _ _ _ _ _ _ _ _ _ _
      | exact LeO.none _
      | refine LeO.ite ?_ ?_
      | refine LeO.bind ?_ (fun _ => ?_)
set_option maxHeartbeats 8000000 in
set_option maxRecDepth 100000 in
theorem perigeelaw8_LimitsMatchSpec.calls (k : Nat) (A0 : Option Addr) (c0 : Nat) (l0 : List (S25)) (A1 : Option Addr) (c1 : Nat) (l1 : List (S35)) (a2_0 : ByteArray) (a2_1 : Int) (a2_2 : Int) (a2_3 : Int) (a2_4 : Int) (a2_5 : Int) (a2_6 : Int) (a2_7 : Int) (a3 : Int) (r : Bool) (w : World) (hr0 : Kd.C k25 w A0 l0.length l0) (hc0 : l0.length ≤ c0) (hr1 : Kd.C k35 w A1 l1.length l1) (hc1 : l1.length ≤ c1) (h : perigeelaw8_LimitsMatchSpec.f k l0 l1 a2_0 a2_1 a2_2 a2_3 a2_4 a2_5 a2_6 a2_7 a3 = some r) :
    Calls Try.prog 3 #[.slice A0 l0.length c0, .slice A1 l1.length c1, .agg #[.string a2_0, .int .i64 a2_1, .int .i64 a2_2, .int .i64 a2_3, .int .i64 a2_4, .int .i64 a2_5, .int .i64 a2_6, .int .i64 a2_7], .int .i64 a3] w fun e w' => e = .returned (.bool r) ∧ Below w.heap.size w w' := by
  have hu25 := Try.underlying25
  have HR0 := Aside0.mk hr0
  have HC0 := Aside0.mk hc0
  clear hr0 hc0
  have HR1 := Aside0.mk hr1
  have HC1 := Aside0.mk hc1
  clear hr1 hc1
  have HB := Aside0.mk (Below.refl w.heap.size w)
  have H : ((monitor_StateOf.f k a2_0 a2_1 a2_2 a2_3 a2_4 a2_5 a2_6 a2_7 a3).bind fun bt168 => ((perigeeref8_StateOf.f k a2_0 a2_1 a2_2 a2_3 a2_4 a2_5 a2_6 a2_7 a3).bind fun bt170 => ((monitor_CheckLimits.f k l0).bind fun t172 => ((perigeeref8_CheckLimits.f k l0).bind fun t173 => (if t172 = t173 then ((monitor_CheckSamples.f k l1).bind fun t174 => ((perigeeref8_CheckSamples.f k l1).bind fun t175 => (if t174 = t175 then (if bt168.1 = bt170.1 then (if bt168.2 = bt170.2 then ((perigeelaw8_awake.f k).bind fun t176 => (some t176)) else (some false)) else (some false)) else (some false)))) else (some false)))))) = some r := h
  clear h
  replace H := Option.bind_eq_some_iff.mp H
  obtain ⟨⟨t168, t169⟩, A50, H⟩ := H
  replace H : ((perigeeref8_StateOf.f k a2_0 a2_1 a2_2 a2_3 a2_4 a2_5 a2_6 a2_7 a3).bind fun bt170 => ((monitor_CheckLimits.f k l0).bind fun t172 => ((perigeeref8_CheckLimits.f k l0).bind fun t173 => (if t172 = t173 then ((monitor_CheckSamples.f k l1).bind fun t174 => ((perigeeref8_CheckSamples.f k l1).bind fun t175 => (if t174 = t175 then (if t168 = bt170.1 then (if t169 = bt170.2 then ((perigeelaw8_awake.f k).bind fun t176 => (some t176)) else (some false)) else (some false)) else (some false)))) else (some false))))) = some r := H
  have A5 := Aside0.mk A50
  clear A50
  replace H := Option.bind_eq_some_iff.mp H
  obtain ⟨⟨t170, t171⟩, A60, H⟩ := H
  replace H : ((monitor_CheckLimits.f k l0).bind fun t172 => ((perigeeref8_CheckLimits.f k l0).bind fun t173 => (if t172 = t173 then ((monitor_CheckSamples.f k l1).bind fun t174 => ((perigeeref8_CheckSamples.f k l1).bind fun t175 => (if t174 = t175 then (if t168 = t170 then (if t169 = t171 then ((perigeelaw8_awake.f k).bind fun t176 => (some t176)) else (some false)) else (some false)) else (some false)))) else (some false)))) = some r := H
  have A6 := Aside0.mk A60
  clear A60
  replace H := Option.bind_eq_some_iff.mp H
  obtain ⟨t172, A70, H⟩ := H
  replace H : ((perigeeref8_CheckLimits.f k l0).bind fun t173 => (if t172 = t173 then ((monitor_CheckSamples.f k l1).bind fun t174 => ((perigeeref8_CheckSamples.f k l1).bind fun t175 => (if t174 = t175 then (if t168 = t170 then (if t169 = t171 then ((perigeelaw8_awake.f k).bind fun t176 => (some t176)) else (some false)) else (some false)) else (some false)))) else (some false))) = some r := H
  have A7 := Aside0.mk A70
  clear A70
  replace H := Option.bind_eq_some_iff.mp H
  obtain ⟨t173, A80, H⟩ := H
  replace H : (if t172 = t173 then ((monitor_CheckSamples.f k l1).bind fun t174 => ((perigeeref8_CheckSamples.f k l1).bind fun t175 => (if t174 = t175 then (if t168 = t170 then (if t169 = t171 then ((perigeelaw8_awake.f k).bind fun t176 => (some t176)) else (some false)) else (some false)) else (some false)))) else (some false)) = some r := H
  have A8 := Aside0.mk A80
  clear A80
  by_cases c9 : t172 = t173
  · rw [if_pos c9] at H
    have c9b0 : (t172 == t173) = true := beq_iff_eq.mpr c9
    have c9b1 : (t172 != t173) = false := bne_eq_false_iff_eq.mpr c9
    clear c9
    replace H := Option.bind_eq_some_iff.mp H
    obtain ⟨t174, A100, H⟩ := H
    replace H : ((perigeeref8_CheckSamples.f k l1).bind fun t175 => (if t174 = t175 then (if t168 = t170 then (if t169 = t171 then ((perigeelaw8_awake.f k).bind fun t176 => (some t176)) else (some false)) else (some false)) else (some false))) = some r := H
    have A10 := Aside0.mk A100
    clear A100
    replace H := Option.bind_eq_some_iff.mp H
    obtain ⟨t175, A110, H⟩ := H
    replace H : (if t174 = t175 then (if t168 = t170 then (if t169 = t171 then ((perigeelaw8_awake.f k).bind fun t176 => (some t176)) else (some false)) else (some false)) else (some false)) = some r := H
    have A11 := Aside0.mk A110
    clear A110
    by_cases c12 : t174 = t175
    · rw [if_pos c12] at H
      have c12b0 : (t174 == t175) = true := beq_iff_eq.mpr c12
      have c12b1 : (t174 != t175) = false := bne_eq_false_iff_eq.mpr c12
      clear c12
      by_cases c13 : t168 = t170
      · rw [if_pos c13] at H
        have c13b0 : (t168 == t170) = true := beq_iff_eq.mpr c13
        have c13b1 : (t168 != t170) = false := bne_eq_false_iff_eq.mpr c13
        clear c13
        by_cases c14 : t169 = t171
        · rw [if_pos c14] at H
          have c14b0 : (t169 == t171) = true := beq_iff_eq.mpr c14
          have c14b1 : (t169 != t171) = false := bne_eq_false_iff_eq.mpr c14
          clear c14
          replace H := Option.bind_eq_some_iff.mp H
          obtain ⟨t176, A150, H⟩ := H
          replace H : (some t176) = some r := H
          have A15 := Aside0.mk A150
          clear A150
          obtain rfl := Option.some.inj H
          go_enter Try.func3, Try.ntmps3
          go_wp2_with (first | ((with_reducible refine gate_dst (N := 6) rfl ?_); refine box_event ?hg (N := 6) ?hd (cs := #[.string a2_0, .int .i64 a2_1, .int .i64 a2_2, .int .i64 a2_3, .int .i64 a2_4, .int .i64 a2_5, .int .i64 a2_6, .int .i64 a2_7]) (t := 25) ?hr ?_; (case hd => rfl); (case hg => rfl); (case hr => first | (go_simp; done) | (go_simp; rfl)); intro gb167 hg w16 hbox hb; have n0_ := Aside0.mk (below_step (by repeat (first | (with_reducible first | exact HB.out | apply below_alloc | apply pw_below_drewN | apply below_drew1) | exact HB.out)) hb); have n1_ := Aside0.mk (hbox); have n2_ := Aside0.mk ((by rw [hg]; exact (below_size (by repeat (first | (with_reducible first | exact HB.out | apply below_alloc | apply pw_below_drewN | apply below_drew1) | exact HB.out))) : w.heap.size ≤ gb167)); have n3_ := Aside0.mk ((by rw [hg]; exact (below_size (by repeat (first | (with_reducible first | exact HB.out | apply below_alloc | apply pw_below_drewN | apply below_drew1) | exact HB.out))) : w.heap.size ≤ gb167)); clear HB; have HB := n0_; have BK167 := n1_; have GW167 := n2_; have GE167 := n3_; clear n0_ n1_ n2_ n3_; clear hb hbox hg; have hcz17_0 : w16.cell? ⟨gb167, 0, none⟩ = some (.string a2_0) := (blk_cell BK167.out 0).trans rfl; have hcz17_1 : w16.cell? ⟨gb167, 1, none⟩ = some (.int .i64 a2_1) := (blk_cell BK167.out 1).trans rfl; have hcz17_2 : w16.cell? ⟨gb167, 2, none⟩ = some (.int .i64 a2_2) := (blk_cell BK167.out 2).trans rfl; have hcz17_3 : w16.cell? ⟨gb167, 3, none⟩ = some (.int .i64 a2_3) := (blk_cell BK167.out 3).trans rfl; have hcz17_4 : w16.cell? ⟨gb167, 4, none⟩ = some (.int .i64 a2_4) := (blk_cell BK167.out 4).trans rfl; have hcz17_5 : w16.cell? ⟨gb167, 5, none⟩ = some (.int .i64 a2_5) := (blk_cell BK167.out 5).trans rfl; have hcz17_6 : w16.cell? ⟨gb167, 6, none⟩ = some (.int .i64 a2_6) := (blk_cell BK167.out 6).trans rfl; have hcz17_7 : w16.cell? ⟨gb167, 7, none⟩ = some (.int .i64 a2_7) := (blk_cell BK167.out 7).trans rfl; have hfz17_0 := blk_frozen BK167.out 0; have hfz17_1 := blk_frozen BK167.out 1; have hfz17_2 := blk_frozen BK167.out 2; have hfz17_3 := blk_frozen BK167.out 3; have hfz17_4 := blk_frozen BK167.out 4; have hfz17_5 := blk_frozen BK167.out 5; have hfz17_6 := blk_frozen BK167.out 6; have hfz17_7 := blk_frozen BK167.out 7) | ((with_reducible refine gate_callee (f := 11) rfl ?_); refine goesL_ (some 16) rfl rfl Try.func11 (by kernel_rfl) rfl #[.agg #[.string a2_0, .int .i64 a2_1, .int .i64 a2_2, .int .i64 a2_3, .int .i64 a2_4, .int .i64 a2_5, .int .i64 a2_6, .int .i64 a2_7], .int .i64 a3] rfl (by (try simp only [List.map_toArray, List.map_cons, List.map_nil]); first | done | rfl | (simp only [List.length_drop, List.length_take]; rfl)) ?_; (with_reducible refine (monitor_StateOf.calls k a2_0 a2_1 a2_2 a2_3 a2_4 a2_5 a2_6 a2_7 a3 t168 t169 _ A5.out).mono ?_); rintro e w18 ⟨rfl, hb⟩; refine ⟨_, rfl, ?_⟩; have n0_ := Aside0.mk (blk_below (g := gb167) (o := .cells #[.string a2_0, .int .i64 a2_1, .int .i64 a2_2, .int .i64 a2_3, .int .i64 a2_4, .int .i64 a2_5, .int .i64 a2_6, .int .i64 a2_7] 25 (0, 0)) (by (with_reducible repeat (first | refine blk_drewN ?_ _ | refine blk_drew ?_ | refine blk_alloc ?_ _)); exact BK167.out) hb); have n1_ := Aside0.mk (below_step (by repeat (first | (with_reducible first | exact HB.out | apply below_alloc | apply pw_below_drewN | apply below_drew1 | refine below_set ?_ GE167.out) | exact HB.out)) hb); clear BK167; clear HB; have BK167 := n0_; have HB := n1_; clear n0_ n1_; (try clear hb); (try clear hb2); (try clear hk); (try clear hi); have hcz19_0 : w18.cell? ⟨gb167, 0, none⟩ = some (.string a2_0) := (blk_cell BK167.out 0).trans rfl; have hcz19_1 : w18.cell? ⟨gb167, 1, none⟩ = some (.int .i64 a2_1) := (blk_cell BK167.out 1).trans rfl; have hcz19_2 : w18.cell? ⟨gb167, 2, none⟩ = some (.int .i64 a2_2) := (blk_cell BK167.out 2).trans rfl; have hcz19_3 : w18.cell? ⟨gb167, 3, none⟩ = some (.int .i64 a2_3) := (blk_cell BK167.out 3).trans rfl; have hcz19_4 : w18.cell? ⟨gb167, 4, none⟩ = some (.int .i64 a2_4) := (blk_cell BK167.out 4).trans rfl; have hcz19_5 : w18.cell? ⟨gb167, 5, none⟩ = some (.int .i64 a2_5) := (blk_cell BK167.out 5).trans rfl; have hcz19_6 : w18.cell? ⟨gb167, 6, none⟩ = some (.int .i64 a2_6) := (blk_cell BK167.out 6).trans rfl; have hcz19_7 : w18.cell? ⟨gb167, 7, none⟩ = some (.int .i64 a2_7) := (blk_cell BK167.out 7).trans rfl; have hfz19_0 := blk_frozen BK167.out 0; have hfz19_1 := blk_frozen BK167.out 1; have hfz19_2 := blk_frozen BK167.out 2; have hfz19_3 := blk_frozen BK167.out 3; have hfz19_4 := blk_frozen BK167.out 4; have hfz19_5 := blk_frozen BK167.out 5; have hfz19_6 := blk_frozen BK167.out 6; have hfz19_7 := blk_frozen BK167.out 7) | ((with_reducible refine gate_callee (f := 12) rfl ?_); refine goesL_ (some 22) rfl rfl Try.func12 (by kernel_rfl) rfl #[.agg #[.string a2_0, .int .i64 a2_1, .int .i64 a2_2, .int .i64 a2_3, .int .i64 a2_4, .int .i64 a2_5, .int .i64 a2_6, .int .i64 a2_7], .int .i64 a3] rfl (by (try simp only [List.map_toArray, List.map_cons, List.map_nil]); first | done | rfl | (simp only [List.length_drop, List.length_take]; rfl)) ?_; (with_reducible refine (perigeeref8_StateOf.calls k a2_0 a2_1 a2_2 a2_3 a2_4 a2_5 a2_6 a2_7 a3 t170 t171 _ A6.out).mono ?_); rintro e w20 ⟨rfl, hb⟩; refine ⟨_, rfl, ?_⟩; have n0_ := Aside0.mk (blk_below (g := gb167) (o := .cells #[.string a2_0, .int .i64 a2_1, .int .i64 a2_2, .int .i64 a2_3, .int .i64 a2_4, .int .i64 a2_5, .int .i64 a2_6, .int .i64 a2_7] 25 (0, 0)) (by (with_reducible repeat (first | refine blk_drewN ?_ _ | refine blk_drew ?_ | refine blk_alloc ?_ _)); exact BK167.out) hb); have n1_ := Aside0.mk (below_step (by repeat (first | (with_reducible first | exact HB.out | apply below_alloc | apply pw_below_drewN | apply below_drew1 | refine below_set ?_ GE167.out) | exact HB.out)) hb); clear BK167; clear HB; have BK167 := n0_; have HB := n1_; clear n0_ n1_; (try clear hb); (try clear hb2); (try clear hk); (try clear hi)) | ((with_reducible refine gate_callee (f := 13) rfl ?_); refine goesL_ (some 26) rfl rfl Try.func13 (by kernel_rfl) rfl #[.slice A0 l0.length c0] rfl (by (try simp only [List.map_toArray, List.map_cons, List.map_nil]); first | done | rfl | (simp only [List.length_drop, List.length_take]; rfl)) ?_; (with_reducible refine (monitor_CheckLimits.calls k _ _ l0 t172 _ ?side1 ?side2 A7.out).mono ?_); (case side1 => repeat (first | exact (Kd.C_below HR0.out HB.out) | (with_reducible refine Kd.C_alloc ?_ _) | (with_reducible refine Kd.C_drewN ?_ _) | (with_reducible refine Kd.C_drew ?_))); (case side2 => exact HC0.out); rintro e w21 ⟨rfl, hb⟩; refine ⟨_, rfl, ?_⟩; have n0_ := Aside0.mk (blk_below (g := gb167) (o := .cells #[.string a2_0, .int .i64 a2_1, .int .i64 a2_2, .int .i64 a2_3, .int .i64 a2_4, .int .i64 a2_5, .int .i64 a2_6, .int .i64 a2_7] 25 (0, 0)) (by (with_reducible repeat (first | refine blk_drewN ?_ _ | refine blk_drew ?_ | refine blk_alloc ?_ _)); exact BK167.out) hb); have n1_ := Aside0.mk (below_step (by repeat (first | (with_reducible first | exact HB.out | apply below_alloc | apply pw_below_drewN | apply below_drew1 | refine below_set ?_ GE167.out) | exact HB.out)) hb); clear BK167; clear HB; have BK167 := n0_; have HB := n1_; clear n0_ n1_; (try clear hb); (try clear hb2); (try clear hk); (try clear hi)) | ((with_reducible refine gate_callee (f := 14) rfl ?_); refine goesL_ (some 28) rfl rfl Try.func14 (by kernel_rfl) rfl #[.slice A0 l0.length c0] rfl (by (try simp only [List.map_toArray, List.map_cons, List.map_nil]); first | done | rfl | (simp only [List.length_drop, List.length_take]; rfl)) ?_; (with_reducible refine (perigeeref8_CheckLimits.calls k _ _ l0 t173 _ ?side1 ?side2 A8.out).mono ?_); (case side1 => repeat (first | exact (Kd.C_below HR0.out HB.out) | (with_reducible refine Kd.C_alloc ?_ _) | (with_reducible refine Kd.C_drewN ?_ _) | (with_reducible refine Kd.C_drew ?_))); (case side2 => exact HC0.out); rintro e w22 ⟨rfl, hb⟩; refine ⟨_, rfl, ?_⟩; have n0_ := Aside0.mk (blk_below (g := gb167) (o := .cells #[.string a2_0, .int .i64 a2_1, .int .i64 a2_2, .int .i64 a2_3, .int .i64 a2_4, .int .i64 a2_5, .int .i64 a2_6, .int .i64 a2_7] 25 (0, 0)) (by (with_reducible repeat (first | refine blk_drewN ?_ _ | refine blk_drew ?_ | refine blk_alloc ?_ _)); exact BK167.out) hb); have n1_ := Aside0.mk (below_step (by repeat (first | (with_reducible first | exact HB.out | apply below_alloc | apply pw_below_drewN | apply below_drew1 | refine below_set ?_ GE167.out) | exact HB.out)) hb); clear BK167; clear HB; have BK167 := n0_; have HB := n1_; clear n0_ n1_; (try clear hb); (try clear hb2); (try clear hk); (try clear hi)) | (go_at_call 15; (with_reducible refine (monitor_CheckSamples.calls k _ _ l1 t174 _ ?side1 ?side2 A10.out).mono ?_); (case side1 => repeat (first | exact (Kd.C_below HR1.out HB.out) | (with_reducible refine Kd.C_alloc ?_ _) | (with_reducible refine Kd.C_drewN ?_ _) | (with_reducible refine Kd.C_drew ?_))); (case side2 => exact HC1.out); rintro e w23 ⟨rfl, hb⟩; have n0_ := Aside0.mk (blk_below (g := gb167) (o := .cells #[.string a2_0, .int .i64 a2_1, .int .i64 a2_2, .int .i64 a2_3, .int .i64 a2_4, .int .i64 a2_5, .int .i64 a2_6, .int .i64 a2_7] 25 (0, 0)) (by (with_reducible repeat (first | refine blk_drewN ?_ _ | refine blk_drew ?_ | refine blk_alloc ?_ _)); exact BK167.out) hb); have n1_ := Aside0.mk (below_step (by repeat (first | (with_reducible first | exact HB.out | apply below_alloc | apply pw_below_drewN | apply below_drew1 | refine below_set ?_ GE167.out) | exact HB.out)) hb); clear BK167; clear HB; have BK167 := n0_; have HB := n1_; clear n0_ n1_; (try clear hb); (try clear hb2); (try clear hk); (try clear hi)) | (go_at_call 16; (with_reducible refine (perigeeref8_CheckSamples.calls k _ _ l1 t175 _ ?side1 ?side2 A11.out).mono ?_); (case side1 => repeat (first | exact (Kd.C_below HR1.out HB.out) | (with_reducible refine Kd.C_alloc ?_ _) | (with_reducible refine Kd.C_drewN ?_ _) | (with_reducible refine Kd.C_drew ?_))); (case side2 => exact HC1.out); rintro e w24 ⟨rfl, hb⟩; have n0_ := Aside0.mk (blk_below (g := gb167) (o := .cells #[.string a2_0, .int .i64 a2_1, .int .i64 a2_2, .int .i64 a2_3, .int .i64 a2_4, .int .i64 a2_5, .int .i64 a2_6, .int .i64 a2_7] 25 (0, 0)) (by (with_reducible repeat (first | refine blk_drewN ?_ _ | refine blk_drew ?_ | refine blk_alloc ?_ _)); exact BK167.out) hb); have n1_ := Aside0.mk (below_step (by repeat (first | (with_reducible first | exact HB.out | apply below_alloc | apply pw_below_drewN | apply below_drew1 | refine below_set ?_ GE167.out) | exact HB.out)) hb); clear BK167; clear HB; have BK167 := n0_; have HB := n1_; clear n0_ n1_; (try clear hb); (try clear hb2); (try clear hk); (try clear hi)) | (go_at_call 17; (with_reducible refine (perigeelaw8_awake.calls k  t176 _ A15.out).mono ?_); rintro e w25 ⟨rfl, hb⟩; have n0_ := Aside0.mk (blk_below (g := gb167) (o := .cells #[.string a2_0, .int .i64 a2_1, .int .i64 a2_2, .int .i64 a2_3, .int .i64 a2_4, .int .i64 a2_5, .int .i64 a2_6, .int .i64 a2_7] 25 (0, 0)) (by (with_reducible repeat (first | refine blk_drewN ?_ _ | refine blk_drew ?_ | refine blk_alloc ?_ _)); exact BK167.out) hb); have n1_ := Aside0.mk (below_step (by repeat (first | (with_reducible first | exact HB.out | apply below_alloc | apply pw_below_drewN | apply below_drew1 | refine below_set ?_ GE167.out) | exact HB.out)) hb); clear BK167; clear HB; have BK167 := n0_; have HB := n1_; clear n0_ n1_; (try clear hb); (try clear hb2); (try clear hk); (try clear hi)))
          go_ret
          exact ⟨by first | rfl | (simp [errW_none, errW_some] <;> rfl) | (simp [*, errW_none, errW_some] <;> rfl), by repeat (first | (with_reducible first | exact HB.out | apply below_alloc | apply pw_below_drewN | apply below_drew1 | refine below_set ?_ GE167.out) | exact HB.out)⟩
        · rw [if_neg c14] at H
          have c14b0 : (t169 == t171) = false := beq_eq_false_iff_ne.mpr c14
          have c14b1 : (t169 != t171) = true := bne_iff_ne.mpr c14
          obtain rfl := Option.some.inj H
          go_enter Try.func3, Try.ntmps3
          go_wp2_with (first | ((with_reducible refine gate_dst (N := 6) rfl ?_); refine box_event ?hg (N := 6) ?hd (cs := #[.string a2_0, .int .i64 a2_1, .int .i64 a2_2, .int .i64 a2_3, .int .i64 a2_4, .int .i64 a2_5, .int .i64 a2_6, .int .i64 a2_7]) (t := 25) ?hr ?_; (case hd => rfl); (case hg => rfl); (case hr => first | (go_simp; done) | (go_simp; rfl)); intro gb167 hg w26 hbox hb; have n0_ := Aside0.mk (below_step (by repeat (first | (with_reducible first | exact HB.out | apply below_alloc | apply pw_below_drewN | apply below_drew1) | exact HB.out)) hb); have n1_ := Aside0.mk (hbox); have n2_ := Aside0.mk ((by rw [hg]; exact (below_size (by repeat (first | (with_reducible first | exact HB.out | apply below_alloc | apply pw_below_drewN | apply below_drew1) | exact HB.out))) : w.heap.size ≤ gb167)); have n3_ := Aside0.mk ((by rw [hg]; exact (below_size (by repeat (first | (with_reducible first | exact HB.out | apply below_alloc | apply pw_below_drewN | apply below_drew1) | exact HB.out))) : w.heap.size ≤ gb167)); clear HB; have HB := n0_; have BK167 := n1_; have GW167 := n2_; have GE167 := n3_; clear n0_ n1_ n2_ n3_; clear hb hbox hg; have hcz27_0 : w26.cell? ⟨gb167, 0, none⟩ = some (.string a2_0) := (blk_cell BK167.out 0).trans rfl; have hcz27_1 : w26.cell? ⟨gb167, 1, none⟩ = some (.int .i64 a2_1) := (blk_cell BK167.out 1).trans rfl; have hcz27_2 : w26.cell? ⟨gb167, 2, none⟩ = some (.int .i64 a2_2) := (blk_cell BK167.out 2).trans rfl; have hcz27_3 : w26.cell? ⟨gb167, 3, none⟩ = some (.int .i64 a2_3) := (blk_cell BK167.out 3).trans rfl; have hcz27_4 : w26.cell? ⟨gb167, 4, none⟩ = some (.int .i64 a2_4) := (blk_cell BK167.out 4).trans rfl; have hcz27_5 : w26.cell? ⟨gb167, 5, none⟩ = some (.int .i64 a2_5) := (blk_cell BK167.out 5).trans rfl; have hcz27_6 : w26.cell? ⟨gb167, 6, none⟩ = some (.int .i64 a2_6) := (blk_cell BK167.out 6).trans rfl; have hcz27_7 : w26.cell? ⟨gb167, 7, none⟩ = some (.int .i64 a2_7) := (blk_cell BK167.out 7).trans rfl; have hfz27_0 := blk_frozen BK167.out 0; have hfz27_1 := blk_frozen BK167.out 1; have hfz27_2 := blk_frozen BK167.out 2; have hfz27_3 := blk_frozen BK167.out 3; have hfz27_4 := blk_frozen BK167.out 4; have hfz27_5 := blk_frozen BK167.out 5; have hfz27_6 := blk_frozen BK167.out 6; have hfz27_7 := blk_frozen BK167.out 7) | ((with_reducible refine gate_callee (f := 11) rfl ?_); refine goesL_ (some 16) rfl rfl Try.func11 (by kernel_rfl) rfl #[.agg #[.string a2_0, .int .i64 a2_1, .int .i64 a2_2, .int .i64 a2_3, .int .i64 a2_4, .int .i64 a2_5, .int .i64 a2_6, .int .i64 a2_7], .int .i64 a3] rfl (by (try simp only [List.map_toArray, List.map_cons, List.map_nil]); first | done | rfl | (simp only [List.length_drop, List.length_take]; rfl)) ?_; (with_reducible refine (monitor_StateOf.calls k a2_0 a2_1 a2_2 a2_3 a2_4 a2_5 a2_6 a2_7 a3 t168 t169 _ A5.out).mono ?_); rintro e w28 ⟨rfl, hb⟩; refine ⟨_, rfl, ?_⟩; have n0_ := Aside0.mk (blk_below (g := gb167) (o := .cells #[.string a2_0, .int .i64 a2_1, .int .i64 a2_2, .int .i64 a2_3, .int .i64 a2_4, .int .i64 a2_5, .int .i64 a2_6, .int .i64 a2_7] 25 (0, 0)) (by (with_reducible repeat (first | refine blk_drewN ?_ _ | refine blk_drew ?_ | refine blk_alloc ?_ _)); exact BK167.out) hb); have n1_ := Aside0.mk (below_step (by repeat (first | (with_reducible first | exact HB.out | apply below_alloc | apply pw_below_drewN | apply below_drew1 | refine below_set ?_ GE167.out) | exact HB.out)) hb); clear BK167; clear HB; have BK167 := n0_; have HB := n1_; clear n0_ n1_; (try clear hb); (try clear hb2); (try clear hk); (try clear hi); have hcz29_0 : w28.cell? ⟨gb167, 0, none⟩ = some (.string a2_0) := (blk_cell BK167.out 0).trans rfl; have hcz29_1 : w28.cell? ⟨gb167, 1, none⟩ = some (.int .i64 a2_1) := (blk_cell BK167.out 1).trans rfl; have hcz29_2 : w28.cell? ⟨gb167, 2, none⟩ = some (.int .i64 a2_2) := (blk_cell BK167.out 2).trans rfl; have hcz29_3 : w28.cell? ⟨gb167, 3, none⟩ = some (.int .i64 a2_3) := (blk_cell BK167.out 3).trans rfl; have hcz29_4 : w28.cell? ⟨gb167, 4, none⟩ = some (.int .i64 a2_4) := (blk_cell BK167.out 4).trans rfl; have hcz29_5 : w28.cell? ⟨gb167, 5, none⟩ = some (.int .i64 a2_5) := (blk_cell BK167.out 5).trans rfl; have hcz29_6 : w28.cell? ⟨gb167, 6, none⟩ = some (.int .i64 a2_6) := (blk_cell BK167.out 6).trans rfl; have hcz29_7 : w28.cell? ⟨gb167, 7, none⟩ = some (.int .i64 a2_7) := (blk_cell BK167.out 7).trans rfl; have hfz29_0 := blk_frozen BK167.out 0; have hfz29_1 := blk_frozen BK167.out 1; have hfz29_2 := blk_frozen BK167.out 2; have hfz29_3 := blk_frozen BK167.out 3; have hfz29_4 := blk_frozen BK167.out 4; have hfz29_5 := blk_frozen BK167.out 5; have hfz29_6 := blk_frozen BK167.out 6; have hfz29_7 := blk_frozen BK167.out 7) | ((with_reducible refine gate_callee (f := 12) rfl ?_); refine goesL_ (some 22) rfl rfl Try.func12 (by kernel_rfl) rfl #[.agg #[.string a2_0, .int .i64 a2_1, .int .i64 a2_2, .int .i64 a2_3, .int .i64 a2_4, .int .i64 a2_5, .int .i64 a2_6, .int .i64 a2_7], .int .i64 a3] rfl (by (try simp only [List.map_toArray, List.map_cons, List.map_nil]); first | done | rfl | (simp only [List.length_drop, List.length_take]; rfl)) ?_; (with_reducible refine (perigeeref8_StateOf.calls k a2_0 a2_1 a2_2 a2_3 a2_4 a2_5 a2_6 a2_7 a3 t170 t171 _ A6.out).mono ?_); rintro e w30 ⟨rfl, hb⟩; refine ⟨_, rfl, ?_⟩; have n0_ := Aside0.mk (blk_below (g := gb167) (o := .cells #[.string a2_0, .int .i64 a2_1, .int .i64 a2_2, .int .i64 a2_3, .int .i64 a2_4, .int .i64 a2_5, .int .i64 a2_6, .int .i64 a2_7] 25 (0, 0)) (by (with_reducible repeat (first | refine blk_drewN ?_ _ | refine blk_drew ?_ | refine blk_alloc ?_ _)); exact BK167.out) hb); have n1_ := Aside0.mk (below_step (by repeat (first | (with_reducible first | exact HB.out | apply below_alloc | apply pw_below_drewN | apply below_drew1 | refine below_set ?_ GE167.out) | exact HB.out)) hb); clear BK167; clear HB; have BK167 := n0_; have HB := n1_; clear n0_ n1_; (try clear hb); (try clear hb2); (try clear hk); (try clear hi)) | ((with_reducible refine gate_callee (f := 13) rfl ?_); refine goesL_ (some 26) rfl rfl Try.func13 (by kernel_rfl) rfl #[.slice A0 l0.length c0] rfl (by (try simp only [List.map_toArray, List.map_cons, List.map_nil]); first | done | rfl | (simp only [List.length_drop, List.length_take]; rfl)) ?_; (with_reducible refine (monitor_CheckLimits.calls k _ _ l0 t172 _ ?side1 ?side2 A7.out).mono ?_); (case side1 => repeat (first | exact (Kd.C_below HR0.out HB.out) | (with_reducible refine Kd.C_alloc ?_ _) | (with_reducible refine Kd.C_drewN ?_ _) | (with_reducible refine Kd.C_drew ?_))); (case side2 => exact HC0.out); rintro e w31 ⟨rfl, hb⟩; refine ⟨_, rfl, ?_⟩; have n0_ := Aside0.mk (blk_below (g := gb167) (o := .cells #[.string a2_0, .int .i64 a2_1, .int .i64 a2_2, .int .i64 a2_3, .int .i64 a2_4, .int .i64 a2_5, .int .i64 a2_6, .int .i64 a2_7] 25 (0, 0)) (by (with_reducible repeat (first | refine blk_drewN ?_ _ | refine blk_drew ?_ | refine blk_alloc ?_ _)); exact BK167.out) hb); have n1_ := Aside0.mk (below_step (by repeat (first | (with_reducible first | exact HB.out | apply below_alloc | apply pw_below_drewN | apply below_drew1 | refine below_set ?_ GE167.out) | exact HB.out)) hb); clear BK167; clear HB; have BK167 := n0_; have HB := n1_; clear n0_ n1_; (try clear hb); (try clear hb2); (try clear hk); (try clear hi)) | ((with_reducible refine gate_callee (f := 14) rfl ?_); refine goesL_ (some 28) rfl rfl Try.func14 (by kernel_rfl) rfl #[.slice A0 l0.length c0] rfl (by (try simp only [List.map_toArray, List.map_cons, List.map_nil]); first | done | rfl | (simp only [List.length_drop, List.length_take]; rfl)) ?_; (with_reducible refine (perigeeref8_CheckLimits.calls k _ _ l0 t173 _ ?side1 ?side2 A8.out).mono ?_); (case side1 => repeat (first | exact (Kd.C_below HR0.out HB.out) | (with_reducible refine Kd.C_alloc ?_ _) | (with_reducible refine Kd.C_drewN ?_ _) | (with_reducible refine Kd.C_drew ?_))); (case side2 => exact HC0.out); rintro e w32 ⟨rfl, hb⟩; refine ⟨_, rfl, ?_⟩; have n0_ := Aside0.mk (blk_below (g := gb167) (o := .cells #[.string a2_0, .int .i64 a2_1, .int .i64 a2_2, .int .i64 a2_3, .int .i64 a2_4, .int .i64 a2_5, .int .i64 a2_6, .int .i64 a2_7] 25 (0, 0)) (by (with_reducible repeat (first | refine blk_drewN ?_ _ | refine blk_drew ?_ | refine blk_alloc ?_ _)); exact BK167.out) hb); have n1_ := Aside0.mk (below_step (by repeat (first | (with_reducible first | exact HB.out | apply below_alloc | apply pw_below_drewN | apply below_drew1 | refine below_set ?_ GE167.out) | exact HB.out)) hb); clear BK167; clear HB; have BK167 := n0_; have HB := n1_; clear n0_ n1_; (try clear hb); (try clear hb2); (try clear hk); (try clear hi)) | (go_at_call 15; (with_reducible refine (monitor_CheckSamples.calls k _ _ l1 t174 _ ?side1 ?side2 A10.out).mono ?_); (case side1 => repeat (first | exact (Kd.C_below HR1.out HB.out) | (with_reducible refine Kd.C_alloc ?_ _) | (with_reducible refine Kd.C_drewN ?_ _) | (with_reducible refine Kd.C_drew ?_))); (case side2 => exact HC1.out); rintro e w33 ⟨rfl, hb⟩; have n0_ := Aside0.mk (blk_below (g := gb167) (o := .cells #[.string a2_0, .int .i64 a2_1, .int .i64 a2_2, .int .i64 a2_3, .int .i64 a2_4, .int .i64 a2_5, .int .i64 a2_6, .int .i64 a2_7] 25 (0, 0)) (by (with_reducible repeat (first | refine blk_drewN ?_ _ | refine blk_drew ?_ | refine blk_alloc ?_ _)); exact BK167.out) hb); have n1_ := Aside0.mk (below_step (by repeat (first | (with_reducible first | exact HB.out | apply below_alloc | apply pw_below_drewN | apply below_drew1 | refine below_set ?_ GE167.out) | exact HB.out)) hb); clear BK167; clear HB; have BK167 := n0_; have HB := n1_; clear n0_ n1_; (try clear hb); (try clear hb2); (try clear hk); (try clear hi)) | (go_at_call 16; (with_reducible refine (perigeeref8_CheckSamples.calls k _ _ l1 t175 _ ?side1 ?side2 A11.out).mono ?_); (case side1 => repeat (first | exact (Kd.C_below HR1.out HB.out) | (with_reducible refine Kd.C_alloc ?_ _) | (with_reducible refine Kd.C_drewN ?_ _) | (with_reducible refine Kd.C_drew ?_))); (case side2 => exact HC1.out); rintro e w34 ⟨rfl, hb⟩; have n0_ := Aside0.mk (blk_below (g := gb167) (o := .cells #[.string a2_0, .int .i64 a2_1, .int .i64 a2_2, .int .i64 a2_3, .int .i64 a2_4, .int .i64 a2_5, .int .i64 a2_6, .int .i64 a2_7] 25 (0, 0)) (by (with_reducible repeat (first | refine blk_drewN ?_ _ | refine blk_drew ?_ | refine blk_alloc ?_ _)); exact BK167.out) hb); have n1_ := Aside0.mk (below_step (by repeat (first | (with_reducible first | exact HB.out | apply below_alloc | apply pw_below_drewN | apply below_drew1 | refine below_set ?_ GE167.out) | exact HB.out)) hb); clear BK167; clear HB; have BK167 := n0_; have HB := n1_; clear n0_ n1_; (try clear hb); (try clear hb2); (try clear hk); (try clear hi)))
          go_ret
          exact ⟨by first | rfl | (simp [errW_none, errW_some] <;> rfl) | (simp [*, errW_none, errW_some] <;> rfl), by repeat (first | (with_reducible first | exact HB.out | apply below_alloc | apply pw_below_drewN | apply below_drew1 | refine below_set ?_ GE167.out) | exact HB.out)⟩
      · rw [if_neg c13] at H
        have c13b0 : (t168 == t170) = false := beq_eq_false_iff_ne.mpr c13
        have c13b1 : (t168 != t170) = true := bne_iff_ne.mpr c13
        obtain rfl := Option.some.inj H
        go_enter Try.func3, Try.ntmps3
        go_wp2_with (first | ((with_reducible refine gate_dst (N := 6) rfl ?_); refine box_event ?hg (N := 6) ?hd (cs := #[.string a2_0, .int .i64 a2_1, .int .i64 a2_2, .int .i64 a2_3, .int .i64 a2_4, .int .i64 a2_5, .int .i64 a2_6, .int .i64 a2_7]) (t := 25) ?hr ?_; (case hd => rfl); (case hg => rfl); (case hr => first | (go_simp; done) | (go_simp; rfl)); intro gb167 hg w35 hbox hb; have n0_ := Aside0.mk (below_step (by repeat (first | (with_reducible first | exact HB.out | apply below_alloc | apply pw_below_drewN | apply below_drew1) | exact HB.out)) hb); have n1_ := Aside0.mk (hbox); have n2_ := Aside0.mk ((by rw [hg]; exact (below_size (by repeat (first | (with_reducible first | exact HB.out | apply below_alloc | apply pw_below_drewN | apply below_drew1) | exact HB.out))) : w.heap.size ≤ gb167)); have n3_ := Aside0.mk ((by rw [hg]; exact (below_size (by repeat (first | (with_reducible first | exact HB.out | apply below_alloc | apply pw_below_drewN | apply below_drew1) | exact HB.out))) : w.heap.size ≤ gb167)); clear HB; have HB := n0_; have BK167 := n1_; have GW167 := n2_; have GE167 := n3_; clear n0_ n1_ n2_ n3_; clear hb hbox hg; have hcz36_0 : w35.cell? ⟨gb167, 0, none⟩ = some (.string a2_0) := (blk_cell BK167.out 0).trans rfl; have hcz36_1 : w35.cell? ⟨gb167, 1, none⟩ = some (.int .i64 a2_1) := (blk_cell BK167.out 1).trans rfl; have hcz36_2 : w35.cell? ⟨gb167, 2, none⟩ = some (.int .i64 a2_2) := (blk_cell BK167.out 2).trans rfl; have hcz36_3 : w35.cell? ⟨gb167, 3, none⟩ = some (.int .i64 a2_3) := (blk_cell BK167.out 3).trans rfl; have hcz36_4 : w35.cell? ⟨gb167, 4, none⟩ = some (.int .i64 a2_4) := (blk_cell BK167.out 4).trans rfl; have hcz36_5 : w35.cell? ⟨gb167, 5, none⟩ = some (.int .i64 a2_5) := (blk_cell BK167.out 5).trans rfl; have hcz36_6 : w35.cell? ⟨gb167, 6, none⟩ = some (.int .i64 a2_6) := (blk_cell BK167.out 6).trans rfl; have hcz36_7 : w35.cell? ⟨gb167, 7, none⟩ = some (.int .i64 a2_7) := (blk_cell BK167.out 7).trans rfl; have hfz36_0 := blk_frozen BK167.out 0; have hfz36_1 := blk_frozen BK167.out 1; have hfz36_2 := blk_frozen BK167.out 2; have hfz36_3 := blk_frozen BK167.out 3; have hfz36_4 := blk_frozen BK167.out 4; have hfz36_5 := blk_frozen BK167.out 5; have hfz36_6 := blk_frozen BK167.out 6; have hfz36_7 := blk_frozen BK167.out 7) | ((with_reducible refine gate_callee (f := 11) rfl ?_); refine goesL_ (some 16) rfl rfl Try.func11 (by kernel_rfl) rfl #[.agg #[.string a2_0, .int .i64 a2_1, .int .i64 a2_2, .int .i64 a2_3, .int .i64 a2_4, .int .i64 a2_5, .int .i64 a2_6, .int .i64 a2_7], .int .i64 a3] rfl (by (try simp only [List.map_toArray, List.map_cons, List.map_nil]); first | done | rfl | (simp only [List.length_drop, List.length_take]; rfl)) ?_; (with_reducible refine (monitor_StateOf.calls k a2_0 a2_1 a2_2 a2_3 a2_4 a2_5 a2_6 a2_7 a3 t168 t169 _ A5.out).mono ?_); rintro e w37 ⟨rfl, hb⟩; refine ⟨_, rfl, ?_⟩; have n0_ := Aside0.mk (blk_below (g := gb167) (o := .cells #[.string a2_0, .int .i64 a2_1, .int .i64 a2_2, .int .i64 a2_3, .int .i64 a2_4, .int .i64 a2_5, .int .i64 a2_6, .int .i64 a2_7] 25 (0, 0)) (by (with_reducible repeat (first | refine blk_drewN ?_ _ | refine blk_drew ?_ | refine blk_alloc ?_ _)); exact BK167.out) hb); have n1_ := Aside0.mk (below_step (by repeat (first | (with_reducible first | exact HB.out | apply below_alloc | apply pw_below_drewN | apply below_drew1 | refine below_set ?_ GE167.out) | exact HB.out)) hb); clear BK167; clear HB; have BK167 := n0_; have HB := n1_; clear n0_ n1_; (try clear hb); (try clear hb2); (try clear hk); (try clear hi); have hcz38_0 : w37.cell? ⟨gb167, 0, none⟩ = some (.string a2_0) := (blk_cell BK167.out 0).trans rfl; have hcz38_1 : w37.cell? ⟨gb167, 1, none⟩ = some (.int .i64 a2_1) := (blk_cell BK167.out 1).trans rfl; have hcz38_2 : w37.cell? ⟨gb167, 2, none⟩ = some (.int .i64 a2_2) := (blk_cell BK167.out 2).trans rfl; have hcz38_3 : w37.cell? ⟨gb167, 3, none⟩ = some (.int .i64 a2_3) := (blk_cell BK167.out 3).trans rfl; have hcz38_4 : w37.cell? ⟨gb167, 4, none⟩ = some (.int .i64 a2_4) := (blk_cell BK167.out 4).trans rfl; have hcz38_5 : w37.cell? ⟨gb167, 5, none⟩ = some (.int .i64 a2_5) := (blk_cell BK167.out 5).trans rfl; have hcz38_6 : w37.cell? ⟨gb167, 6, none⟩ = some (.int .i64 a2_6) := (blk_cell BK167.out 6).trans rfl; have hcz38_7 : w37.cell? ⟨gb167, 7, none⟩ = some (.int .i64 a2_7) := (blk_cell BK167.out 7).trans rfl; have hfz38_0 := blk_frozen BK167.out 0; have hfz38_1 := blk_frozen BK167.out 1; have hfz38_2 := blk_frozen BK167.out 2; have hfz38_3 := blk_frozen BK167.out 3; have hfz38_4 := blk_frozen BK167.out 4; have hfz38_5 := blk_frozen BK167.out 5; have hfz38_6 := blk_frozen BK167.out 6; have hfz38_7 := blk_frozen BK167.out 7) | ((with_reducible refine gate_callee (f := 12) rfl ?_); refine goesL_ (some 22) rfl rfl Try.func12 (by kernel_rfl) rfl #[.agg #[.string a2_0, .int .i64 a2_1, .int .i64 a2_2, .int .i64 a2_3, .int .i64 a2_4, .int .i64 a2_5, .int .i64 a2_6, .int .i64 a2_7], .int .i64 a3] rfl (by (try simp only [List.map_toArray, List.map_cons, List.map_nil]); first | done | rfl | (simp only [List.length_drop, List.length_take]; rfl)) ?_; (with_reducible refine (perigeeref8_StateOf.calls k a2_0 a2_1 a2_2 a2_3 a2_4 a2_5 a2_6 a2_7 a3 t170 t171 _ A6.out).mono ?_); rintro e w39 ⟨rfl, hb⟩; refine ⟨_, rfl, ?_⟩; have n0_ := Aside0.mk (blk_below (g := gb167) (o := .cells #[.string a2_0, .int .i64 a2_1, .int .i64 a2_2, .int .i64 a2_3, .int .i64 a2_4, .int .i64 a2_5, .int .i64 a2_6, .int .i64 a2_7] 25 (0, 0)) (by (with_reducible repeat (first | refine blk_drewN ?_ _ | refine blk_drew ?_ | refine blk_alloc ?_ _)); exact BK167.out) hb); have n1_ := Aside0.mk (below_step (by repeat (first | (with_reducible first | exact HB.out | apply below_alloc | apply pw_below_drewN | apply below_drew1 | refine below_set ?_ GE167.out) | exact HB.out)) hb); clear BK167; clear HB; have BK167 := n0_; have HB := n1_; clear n0_ n1_; (try clear hb); (try clear hb2); (try clear hk); (try clear hi)) | ((with_reducible refine gate_callee (f := 13) rfl ?_); refine goesL_ (some 26) rfl rfl Try.func13 (by kernel_rfl) rfl #[.slice A0 l0.length c0] rfl (by (try simp only [List.map_toArray, List.map_cons, List.map_nil]); first | done | rfl | (simp only [List.length_drop, List.length_take]; rfl)) ?_; (with_reducible refine (monitor_CheckLimits.calls k _ _ l0 t172 _ ?side1 ?side2 A7.out).mono ?_); (case side1 => repeat (first | exact (Kd.C_below HR0.out HB.out) | (with_reducible refine Kd.C_alloc ?_ _) | (with_reducible refine Kd.C_drewN ?_ _) | (with_reducible refine Kd.C_drew ?_))); (case side2 => exact HC0.out); rintro e w40 ⟨rfl, hb⟩; refine ⟨_, rfl, ?_⟩; have n0_ := Aside0.mk (blk_below (g := gb167) (o := .cells #[.string a2_0, .int .i64 a2_1, .int .i64 a2_2, .int .i64 a2_3, .int .i64 a2_4, .int .i64 a2_5, .int .i64 a2_6, .int .i64 a2_7] 25 (0, 0)) (by (with_reducible repeat (first | refine blk_drewN ?_ _ | refine blk_drew ?_ | refine blk_alloc ?_ _)); exact BK167.out) hb); have n1_ := Aside0.mk (below_step (by repeat (first | (with_reducible first | exact HB.out | apply below_alloc | apply pw_below_drewN | apply below_drew1 | refine below_set ?_ GE167.out) | exact HB.out)) hb); clear BK167; clear HB; have BK167 := n0_; have HB := n1_; clear n0_ n1_; (try clear hb); (try clear hb2); (try clear hk); (try clear hi)) | ((with_reducible refine gate_callee (f := 14) rfl ?_); refine goesL_ (some 28) rfl rfl Try.func14 (by kernel_rfl) rfl #[.slice A0 l0.length c0] rfl (by (try simp only [List.map_toArray, List.map_cons, List.map_nil]); first | done | rfl | (simp only [List.length_drop, List.length_take]; rfl)) ?_; (with_reducible refine (perigeeref8_CheckLimits.calls k _ _ l0 t173 _ ?side1 ?side2 A8.out).mono ?_); (case side1 => repeat (first | exact (Kd.C_below HR0.out HB.out) | (with_reducible refine Kd.C_alloc ?_ _) | (with_reducible refine Kd.C_drewN ?_ _) | (with_reducible refine Kd.C_drew ?_))); (case side2 => exact HC0.out); rintro e w41 ⟨rfl, hb⟩; refine ⟨_, rfl, ?_⟩; have n0_ := Aside0.mk (blk_below (g := gb167) (o := .cells #[.string a2_0, .int .i64 a2_1, .int .i64 a2_2, .int .i64 a2_3, .int .i64 a2_4, .int .i64 a2_5, .int .i64 a2_6, .int .i64 a2_7] 25 (0, 0)) (by (with_reducible repeat (first | refine blk_drewN ?_ _ | refine blk_drew ?_ | refine blk_alloc ?_ _)); exact BK167.out) hb); have n1_ := Aside0.mk (below_step (by repeat (first | (with_reducible first | exact HB.out | apply below_alloc | apply pw_below_drewN | apply below_drew1 | refine below_set ?_ GE167.out) | exact HB.out)) hb); clear BK167; clear HB; have BK167 := n0_; have HB := n1_; clear n0_ n1_; (try clear hb); (try clear hb2); (try clear hk); (try clear hi)) | (go_at_call 15; (with_reducible refine (monitor_CheckSamples.calls k _ _ l1 t174 _ ?side1 ?side2 A10.out).mono ?_); (case side1 => repeat (first | exact (Kd.C_below HR1.out HB.out) | (with_reducible refine Kd.C_alloc ?_ _) | (with_reducible refine Kd.C_drewN ?_ _) | (with_reducible refine Kd.C_drew ?_))); (case side2 => exact HC1.out); rintro e w42 ⟨rfl, hb⟩; have n0_ := Aside0.mk (blk_below (g := gb167) (o := .cells #[.string a2_0, .int .i64 a2_1, .int .i64 a2_2, .int .i64 a2_3, .int .i64 a2_4, .int .i64 a2_5, .int .i64 a2_6, .int .i64 a2_7] 25 (0, 0)) (by (with_reducible repeat (first | refine blk_drewN ?_ _ | refine blk_drew ?_ | refine blk_alloc ?_ _)); exact BK167.out) hb); have n1_ := Aside0.mk (below_step (by repeat (first | (with_reducible first | exact HB.out | apply below_alloc | apply pw_below_drewN | apply below_drew1 | refine below_set ?_ GE167.out) | exact HB.out)) hb); clear BK167; clear HB; have BK167 := n0_; have HB := n1_; clear n0_ n1_; (try clear hb); (try clear hb2); (try clear hk); (try clear hi)) | (go_at_call 16; (with_reducible refine (perigeeref8_CheckSamples.calls k _ _ l1 t175 _ ?side1 ?side2 A11.out).mono ?_); (case side1 => repeat (first | exact (Kd.C_below HR1.out HB.out) | (with_reducible refine Kd.C_alloc ?_ _) | (with_reducible refine Kd.C_drewN ?_ _) | (with_reducible refine Kd.C_drew ?_))); (case side2 => exact HC1.out); rintro e w43 ⟨rfl, hb⟩; have n0_ := Aside0.mk (blk_below (g := gb167) (o := .cells #[.string a2_0, .int .i64 a2_1, .int .i64 a2_2, .int .i64 a2_3, .int .i64 a2_4, .int .i64 a2_5, .int .i64 a2_6, .int .i64 a2_7] 25 (0, 0)) (by (with_reducible repeat (first | refine blk_drewN ?_ _ | refine blk_drew ?_ | refine blk_alloc ?_ _)); exact BK167.out) hb); have n1_ := Aside0.mk (below_step (by repeat (first | (with_reducible first | exact HB.out | apply below_alloc | apply pw_below_drewN | apply below_drew1 | refine below_set ?_ GE167.out) | exact HB.out)) hb); clear BK167; clear HB; have BK167 := n0_; have HB := n1_; clear n0_ n1_; (try clear hb); (try clear hb2); (try clear hk); (try clear hi)))
        go_ret
        exact ⟨by first | rfl | (simp [errW_none, errW_some] <;> rfl) | (simp [*, errW_none, errW_some] <;> rfl), by repeat (first | (with_reducible first | exact HB.out | apply below_alloc | apply pw_below_drewN | apply below_drew1 | refine below_set ?_ GE167.out) | exact HB.out)⟩
    · rw [if_neg c12] at H
      have c12b0 : (t174 == t175) = false := beq_eq_false_iff_ne.mpr c12
      have c12b1 : (t174 != t175) = true := bne_iff_ne.mpr c12
      obtain rfl := Option.some.inj H
      go_enter Try.func3, Try.ntmps3
      go_wp2_with (first | ((with_reducible refine gate_dst (N := 6) rfl ?_); refine box_event ?hg (N := 6) ?hd (cs := #[.string a2_0, .int .i64 a2_1, .int .i64 a2_2, .int .i64 a2_3, .int .i64 a2_4, .int .i64 a2_5, .int .i64 a2_6, .int .i64 a2_7]) (t := 25) ?hr ?_; (case hd => rfl); (case hg => rfl); (case hr => first | (go_simp; done) | (go_simp; rfl)); intro gb167 hg w44 hbox hb; have n0_ := Aside0.mk (below_step (by repeat (first | (with_reducible first | exact HB.out | apply below_alloc | apply pw_below_drewN | apply below_drew1) | exact HB.out)) hb); have n1_ := Aside0.mk (hbox); have n2_ := Aside0.mk ((by rw [hg]; exact (below_size (by repeat (first | (with_reducible first | exact HB.out | apply below_alloc | apply pw_below_drewN | apply below_drew1) | exact HB.out))) : w.heap.size ≤ gb167)); have n3_ := Aside0.mk ((by rw [hg]; exact (below_size (by repeat (first | (with_reducible first | exact HB.out | apply below_alloc | apply pw_below_drewN | apply below_drew1) | exact HB.out))) : w.heap.size ≤ gb167)); clear HB; have HB := n0_; have BK167 := n1_; have GW167 := n2_; have GE167 := n3_; clear n0_ n1_ n2_ n3_; clear hb hbox hg; have hcz45_0 : w44.cell? ⟨gb167, 0, none⟩ = some (.string a2_0) := (blk_cell BK167.out 0).trans rfl; have hcz45_1 : w44.cell? ⟨gb167, 1, none⟩ = some (.int .i64 a2_1) := (blk_cell BK167.out 1).trans rfl; have hcz45_2 : w44.cell? ⟨gb167, 2, none⟩ = some (.int .i64 a2_2) := (blk_cell BK167.out 2).trans rfl; have hcz45_3 : w44.cell? ⟨gb167, 3, none⟩ = some (.int .i64 a2_3) := (blk_cell BK167.out 3).trans rfl; have hcz45_4 : w44.cell? ⟨gb167, 4, none⟩ = some (.int .i64 a2_4) := (blk_cell BK167.out 4).trans rfl; have hcz45_5 : w44.cell? ⟨gb167, 5, none⟩ = some (.int .i64 a2_5) := (blk_cell BK167.out 5).trans rfl; have hcz45_6 : w44.cell? ⟨gb167, 6, none⟩ = some (.int .i64 a2_6) := (blk_cell BK167.out 6).trans rfl; have hcz45_7 : w44.cell? ⟨gb167, 7, none⟩ = some (.int .i64 a2_7) := (blk_cell BK167.out 7).trans rfl; have hfz45_0 := blk_frozen BK167.out 0; have hfz45_1 := blk_frozen BK167.out 1; have hfz45_2 := blk_frozen BK167.out 2; have hfz45_3 := blk_frozen BK167.out 3; have hfz45_4 := blk_frozen BK167.out 4; have hfz45_5 := blk_frozen BK167.out 5; have hfz45_6 := blk_frozen BK167.out 6; have hfz45_7 := blk_frozen BK167.out 7) | ((with_reducible refine gate_callee (f := 11) rfl ?_); refine goesL_ (some 16) rfl rfl Try.func11 (by kernel_rfl) rfl #[.agg #[.string a2_0, .int .i64 a2_1, .int .i64 a2_2, .int .i64 a2_3, .int .i64 a2_4, .int .i64 a2_5, .int .i64 a2_6, .int .i64 a2_7], .int .i64 a3] rfl (by (try simp only [List.map_toArray, List.map_cons, List.map_nil]); first | done | rfl | (simp only [List.length_drop, List.length_take]; rfl)) ?_; (with_reducible refine (monitor_StateOf.calls k a2_0 a2_1 a2_2 a2_3 a2_4 a2_5 a2_6 a2_7 a3 t168 t169 _ A5.out).mono ?_); rintro e w46 ⟨rfl, hb⟩; refine ⟨_, rfl, ?_⟩; have n0_ := Aside0.mk (blk_below (g := gb167) (o := .cells #[.string a2_0, .int .i64 a2_1, .int .i64 a2_2, .int .i64 a2_3, .int .i64 a2_4, .int .i64 a2_5, .int .i64 a2_6, .int .i64 a2_7] 25 (0, 0)) (by (with_reducible repeat (first | refine blk_drewN ?_ _ | refine blk_drew ?_ | refine blk_alloc ?_ _)); exact BK167.out) hb); have n1_ := Aside0.mk (below_step (by repeat (first | (with_reducible first | exact HB.out | apply below_alloc | apply pw_below_drewN | apply below_drew1 | refine below_set ?_ GE167.out) | exact HB.out)) hb); clear BK167; clear HB; have BK167 := n0_; have HB := n1_; clear n0_ n1_; (try clear hb); (try clear hb2); (try clear hk); (try clear hi); have hcz47_0 : w46.cell? ⟨gb167, 0, none⟩ = some (.string a2_0) := (blk_cell BK167.out 0).trans rfl; have hcz47_1 : w46.cell? ⟨gb167, 1, none⟩ = some (.int .i64 a2_1) := (blk_cell BK167.out 1).trans rfl; have hcz47_2 : w46.cell? ⟨gb167, 2, none⟩ = some (.int .i64 a2_2) := (blk_cell BK167.out 2).trans rfl; have hcz47_3 : w46.cell? ⟨gb167, 3, none⟩ = some (.int .i64 a2_3) := (blk_cell BK167.out 3).trans rfl; have hcz47_4 : w46.cell? ⟨gb167, 4, none⟩ = some (.int .i64 a2_4) := (blk_cell BK167.out 4).trans rfl; have hcz47_5 : w46.cell? ⟨gb167, 5, none⟩ = some (.int .i64 a2_5) := (blk_cell BK167.out 5).trans rfl; have hcz47_6 : w46.cell? ⟨gb167, 6, none⟩ = some (.int .i64 a2_6) := (blk_cell BK167.out 6).trans rfl; have hcz47_7 : w46.cell? ⟨gb167, 7, none⟩ = some (.int .i64 a2_7) := (blk_cell BK167.out 7).trans rfl; have hfz47_0 := blk_frozen BK167.out 0; have hfz47_1 := blk_frozen BK167.out 1; have hfz47_2 := blk_frozen BK167.out 2; have hfz47_3 := blk_frozen BK167.out 3; have hfz47_4 := blk_frozen BK167.out 4; have hfz47_5 := blk_frozen BK167.out 5; have hfz47_6 := blk_frozen BK167.out 6; have hfz47_7 := blk_frozen BK167.out 7) | ((with_reducible refine gate_callee (f := 12) rfl ?_); refine goesL_ (some 22) rfl rfl Try.func12 (by kernel_rfl) rfl #[.agg #[.string a2_0, .int .i64 a2_1, .int .i64 a2_2, .int .i64 a2_3, .int .i64 a2_4, .int .i64 a2_5, .int .i64 a2_6, .int .i64 a2_7], .int .i64 a3] rfl (by (try simp only [List.map_toArray, List.map_cons, List.map_nil]); first | done | rfl | (simp only [List.length_drop, List.length_take]; rfl)) ?_; (with_reducible refine (perigeeref8_StateOf.calls k a2_0 a2_1 a2_2 a2_3 a2_4 a2_5 a2_6 a2_7 a3 t170 t171 _ A6.out).mono ?_); rintro e w48 ⟨rfl, hb⟩; refine ⟨_, rfl, ?_⟩; have n0_ := Aside0.mk (blk_below (g := gb167) (o := .cells #[.string a2_0, .int .i64 a2_1, .int .i64 a2_2, .int .i64 a2_3, .int .i64 a2_4, .int .i64 a2_5, .int .i64 a2_6, .int .i64 a2_7] 25 (0, 0)) (by (with_reducible repeat (first | refine blk_drewN ?_ _ | refine blk_drew ?_ | refine blk_alloc ?_ _)); exact BK167.out) hb); have n1_ := Aside0.mk (below_step (by repeat (first | (with_reducible first | exact HB.out | apply below_alloc | apply pw_below_drewN | apply below_drew1 | refine below_set ?_ GE167.out) | exact HB.out)) hb); clear BK167; clear HB; have BK167 := n0_; have HB := n1_; clear n0_ n1_; (try clear hb); (try clear hb2); (try clear hk); (try clear hi)) | ((with_reducible refine gate_callee (f := 13) rfl ?_); refine goesL_ (some 26) rfl rfl Try.func13 (by kernel_rfl) rfl #[.slice A0 l0.length c0] rfl (by (try simp only [List.map_toArray, List.map_cons, List.map_nil]); first | done | rfl | (simp only [List.length_drop, List.length_take]; rfl)) ?_; (with_reducible refine (monitor_CheckLimits.calls k _ _ l0 t172 _ ?side1 ?side2 A7.out).mono ?_); (case side1 => repeat (first | exact (Kd.C_below HR0.out HB.out) | (with_reducible refine Kd.C_alloc ?_ _) | (with_reducible refine Kd.C_drewN ?_ _) | (with_reducible refine Kd.C_drew ?_))); (case side2 => exact HC0.out); rintro e w49 ⟨rfl, hb⟩; refine ⟨_, rfl, ?_⟩; have n0_ := Aside0.mk (blk_below (g := gb167) (o := .cells #[.string a2_0, .int .i64 a2_1, .int .i64 a2_2, .int .i64 a2_3, .int .i64 a2_4, .int .i64 a2_5, .int .i64 a2_6, .int .i64 a2_7] 25 (0, 0)) (by (with_reducible repeat (first | refine blk_drewN ?_ _ | refine blk_drew ?_ | refine blk_alloc ?_ _)); exact BK167.out) hb); have n1_ := Aside0.mk (below_step (by repeat (first | (with_reducible first | exact HB.out | apply below_alloc | apply pw_below_drewN | apply below_drew1 | refine below_set ?_ GE167.out) | exact HB.out)) hb); clear BK167; clear HB; have BK167 := n0_; have HB := n1_; clear n0_ n1_; (try clear hb); (try clear hb2); (try clear hk); (try clear hi)) | ((with_reducible refine gate_callee (f := 14) rfl ?_); refine goesL_ (some 28) rfl rfl Try.func14 (by kernel_rfl) rfl #[.slice A0 l0.length c0] rfl (by (try simp only [List.map_toArray, List.map_cons, List.map_nil]); first | done | rfl | (simp only [List.length_drop, List.length_take]; rfl)) ?_; (with_reducible refine (perigeeref8_CheckLimits.calls k _ _ l0 t173 _ ?side1 ?side2 A8.out).mono ?_); (case side1 => repeat (first | exact (Kd.C_below HR0.out HB.out) | (with_reducible refine Kd.C_alloc ?_ _) | (with_reducible refine Kd.C_drewN ?_ _) | (with_reducible refine Kd.C_drew ?_))); (case side2 => exact HC0.out); rintro e w50 ⟨rfl, hb⟩; refine ⟨_, rfl, ?_⟩; have n0_ := Aside0.mk (blk_below (g := gb167) (o := .cells #[.string a2_0, .int .i64 a2_1, .int .i64 a2_2, .int .i64 a2_3, .int .i64 a2_4, .int .i64 a2_5, .int .i64 a2_6, .int .i64 a2_7] 25 (0, 0)) (by (with_reducible repeat (first | refine blk_drewN ?_ _ | refine blk_drew ?_ | refine blk_alloc ?_ _)); exact BK167.out) hb); have n1_ := Aside0.mk (below_step (by repeat (first | (with_reducible first | exact HB.out | apply below_alloc | apply pw_below_drewN | apply below_drew1 | refine below_set ?_ GE167.out) | exact HB.out)) hb); clear BK167; clear HB; have BK167 := n0_; have HB := n1_; clear n0_ n1_; (try clear hb); (try clear hb2); (try clear hk); (try clear hi)) | (go_at_call 15; (with_reducible refine (monitor_CheckSamples.calls k _ _ l1 t174 _ ?side1 ?side2 A10.out).mono ?_); (case side1 => repeat (first | exact (Kd.C_below HR1.out HB.out) | (with_reducible refine Kd.C_alloc ?_ _) | (with_reducible refine Kd.C_drewN ?_ _) | (with_reducible refine Kd.C_drew ?_))); (case side2 => exact HC1.out); rintro e w51 ⟨rfl, hb⟩; have n0_ := Aside0.mk (blk_below (g := gb167) (o := .cells #[.string a2_0, .int .i64 a2_1, .int .i64 a2_2, .int .i64 a2_3, .int .i64 a2_4, .int .i64 a2_5, .int .i64 a2_6, .int .i64 a2_7] 25 (0, 0)) (by (with_reducible repeat (first | refine blk_drewN ?_ _ | refine blk_drew ?_ | refine blk_alloc ?_ _)); exact BK167.out) hb); have n1_ := Aside0.mk (below_step (by repeat (first | (with_reducible first | exact HB.out | apply below_alloc | apply pw_below_drewN | apply below_drew1 | refine below_set ?_ GE167.out) | exact HB.out)) hb); clear BK167; clear HB; have BK167 := n0_; have HB := n1_; clear n0_ n1_; (try clear hb); (try clear hb2); (try clear hk); (try clear hi)) | (go_at_call 16; (with_reducible refine (perigeeref8_CheckSamples.calls k _ _ l1 t175 _ ?side1 ?side2 A11.out).mono ?_); (case side1 => repeat (first | exact (Kd.C_below HR1.out HB.out) | (with_reducible refine Kd.C_alloc ?_ _) | (with_reducible refine Kd.C_drewN ?_ _) | (with_reducible refine Kd.C_drew ?_))); (case side2 => exact HC1.out); rintro e w52 ⟨rfl, hb⟩; have n0_ := Aside0.mk (blk_below (g := gb167) (o := .cells #[.string a2_0, .int .i64 a2_1, .int .i64 a2_2, .int .i64 a2_3, .int .i64 a2_4, .int .i64 a2_5, .int .i64 a2_6, .int .i64 a2_7] 25 (0, 0)) (by (with_reducible repeat (first | refine blk_drewN ?_ _ | refine blk_drew ?_ | refine blk_alloc ?_ _)); exact BK167.out) hb); have n1_ := Aside0.mk (below_step (by repeat (first | (with_reducible first | exact HB.out | apply below_alloc | apply pw_below_drewN | apply below_drew1 | refine below_set ?_ GE167.out) | exact HB.out)) hb); clear BK167; clear HB; have BK167 := n0_; have HB := n1_; clear n0_ n1_; (try clear hb); (try clear hb2); (try clear hk); (try clear hi)))
      go_ret
      exact ⟨by first | rfl | (simp [errW_none, errW_some] <;> rfl) | (simp [*, errW_none, errW_some] <;> rfl), by repeat (first | (with_reducible first | exact HB.out | apply below_alloc | apply pw_below_drewN | apply below_drew1 | refine below_set ?_ GE167.out) | exact HB.out)⟩
  · rw [if_neg c9] at H
    have c9b0 : (t172 == t173) = false := beq_eq_false_iff_ne.mpr c9
    have c9b1 : (t172 != t173) = true := bne_iff_ne.mpr c9
    obtain rfl := Option.some.inj H
    go_enter Try.func3, Try.ntmps3
    go_wp2_with (first | ((with_reducible refine gate_dst (N := 6) rfl ?_); refine box_event ?hg (N := 6) ?hd (cs := #[.string a2_0, .int .i64 a2_1, .int .i64 a2_2, .int .i64 a2_3, .int .i64 a2_4, .int .i64 a2_5, .int .i64 a2_6, .int .i64 a2_7]) (t := 25) ?hr ?_; (case hd => rfl); (case hg => rfl); (case hr => first | (go_simp; done) | (go_simp; rfl)); intro gb167 hg w53 hbox hb; have n0_ := Aside0.mk (below_step (by repeat (first | (with_reducible first | exact HB.out | apply below_alloc | apply pw_below_drewN | apply below_drew1) | exact HB.out)) hb); have n1_ := Aside0.mk (hbox); have n2_ := Aside0.mk ((by rw [hg]; exact (below_size (by repeat (first | (with_reducible first | exact HB.out | apply below_alloc | apply pw_below_drewN | apply below_drew1) | exact HB.out))) : w.heap.size ≤ gb167)); have n3_ := Aside0.mk ((by rw [hg]; exact (below_size (by repeat (first | (with_reducible first | exact HB.out | apply below_alloc | apply pw_below_drewN | apply below_drew1) | exact HB.out))) : w.heap.size ≤ gb167)); clear HB; have HB := n0_; have BK167 := n1_; have GW167 := n2_; have GE167 := n3_; clear n0_ n1_ n2_ n3_; clear hb hbox hg; have hcz54_0 : w53.cell? ⟨gb167, 0, none⟩ = some (.string a2_0) := (blk_cell BK167.out 0).trans rfl; have hcz54_1 : w53.cell? ⟨gb167, 1, none⟩ = some (.int .i64 a2_1) := (blk_cell BK167.out 1).trans rfl; have hcz54_2 : w53.cell? ⟨gb167, 2, none⟩ = some (.int .i64 a2_2) := (blk_cell BK167.out 2).trans rfl; have hcz54_3 : w53.cell? ⟨gb167, 3, none⟩ = some (.int .i64 a2_3) := (blk_cell BK167.out 3).trans rfl; have hcz54_4 : w53.cell? ⟨gb167, 4, none⟩ = some (.int .i64 a2_4) := (blk_cell BK167.out 4).trans rfl; have hcz54_5 : w53.cell? ⟨gb167, 5, none⟩ = some (.int .i64 a2_5) := (blk_cell BK167.out 5).trans rfl; have hcz54_6 : w53.cell? ⟨gb167, 6, none⟩ = some (.int .i64 a2_6) := (blk_cell BK167.out 6).trans rfl; have hcz54_7 : w53.cell? ⟨gb167, 7, none⟩ = some (.int .i64 a2_7) := (blk_cell BK167.out 7).trans rfl; have hfz54_0 := blk_frozen BK167.out 0; have hfz54_1 := blk_frozen BK167.out 1; have hfz54_2 := blk_frozen BK167.out 2; have hfz54_3 := blk_frozen BK167.out 3; have hfz54_4 := blk_frozen BK167.out 4; have hfz54_5 := blk_frozen BK167.out 5; have hfz54_6 := blk_frozen BK167.out 6; have hfz54_7 := blk_frozen BK167.out 7) | ((with_reducible refine gate_callee (f := 11) rfl ?_); refine goesL_ (some 16) rfl rfl Try.func11 (by kernel_rfl) rfl #[.agg #[.string a2_0, .int .i64 a2_1, .int .i64 a2_2, .int .i64 a2_3, .int .i64 a2_4, .int .i64 a2_5, .int .i64 a2_6, .int .i64 a2_7], .int .i64 a3] rfl (by (try simp only [List.map_toArray, List.map_cons, List.map_nil]); first | done | rfl | (simp only [List.length_drop, List.length_take]; rfl)) ?_; (with_reducible refine (monitor_StateOf.calls k a2_0 a2_1 a2_2 a2_3 a2_4 a2_5 a2_6 a2_7 a3 t168 t169 _ A5.out).mono ?_); rintro e w55 ⟨rfl, hb⟩; refine ⟨_, rfl, ?_⟩; have n0_ := Aside0.mk (blk_below (g := gb167) (o := .cells #[.string a2_0, .int .i64 a2_1, .int .i64 a2_2, .int .i64 a2_3, .int .i64 a2_4, .int .i64 a2_5, .int .i64 a2_6, .int .i64 a2_7] 25 (0, 0)) (by (with_reducible repeat (first | refine blk_drewN ?_ _ | refine blk_drew ?_ | refine blk_alloc ?_ _)); exact BK167.out) hb); have n1_ := Aside0.mk (below_step (by repeat (first | (with_reducible first | exact HB.out | apply below_alloc | apply pw_below_drewN | apply below_drew1 | refine below_set ?_ GE167.out) | exact HB.out)) hb); clear BK167; clear HB; have BK167 := n0_; have HB := n1_; clear n0_ n1_; (try clear hb); (try clear hb2); (try clear hk); (try clear hi); have hcz56_0 : w55.cell? ⟨gb167, 0, none⟩ = some (.string a2_0) := (blk_cell BK167.out 0).trans rfl; have hcz56_1 : w55.cell? ⟨gb167, 1, none⟩ = some (.int .i64 a2_1) := (blk_cell BK167.out 1).trans rfl; have hcz56_2 : w55.cell? ⟨gb167, 2, none⟩ = some (.int .i64 a2_2) := (blk_cell BK167.out 2).trans rfl; have hcz56_3 : w55.cell? ⟨gb167, 3, none⟩ = some (.int .i64 a2_3) := (blk_cell BK167.out 3).trans rfl; have hcz56_4 : w55.cell? ⟨gb167, 4, none⟩ = some (.int .i64 a2_4) := (blk_cell BK167.out 4).trans rfl; have hcz56_5 : w55.cell? ⟨gb167, 5, none⟩ = some (.int .i64 a2_5) := (blk_cell BK167.out 5).trans rfl; have hcz56_6 : w55.cell? ⟨gb167, 6, none⟩ = some (.int .i64 a2_6) := (blk_cell BK167.out 6).trans rfl; have hcz56_7 : w55.cell? ⟨gb167, 7, none⟩ = some (.int .i64 a2_7) := (blk_cell BK167.out 7).trans rfl; have hfz56_0 := blk_frozen BK167.out 0; have hfz56_1 := blk_frozen BK167.out 1; have hfz56_2 := blk_frozen BK167.out 2; have hfz56_3 := blk_frozen BK167.out 3; have hfz56_4 := blk_frozen BK167.out 4; have hfz56_5 := blk_frozen BK167.out 5; have hfz56_6 := blk_frozen BK167.out 6; have hfz56_7 := blk_frozen BK167.out 7) | ((with_reducible refine gate_callee (f := 12) rfl ?_); refine goesL_ (some 22) rfl rfl Try.func12 (by kernel_rfl) rfl #[.agg #[.string a2_0, .int .i64 a2_1, .int .i64 a2_2, .int .i64 a2_3, .int .i64 a2_4, .int .i64 a2_5, .int .i64 a2_6, .int .i64 a2_7], .int .i64 a3] rfl (by (try simp only [List.map_toArray, List.map_cons, List.map_nil]); first | done | rfl | (simp only [List.length_drop, List.length_take]; rfl)) ?_; (with_reducible refine (perigeeref8_StateOf.calls k a2_0 a2_1 a2_2 a2_3 a2_4 a2_5 a2_6 a2_7 a3 t170 t171 _ A6.out).mono ?_); rintro e w57 ⟨rfl, hb⟩; refine ⟨_, rfl, ?_⟩; have n0_ := Aside0.mk (blk_below (g := gb167) (o := .cells #[.string a2_0, .int .i64 a2_1, .int .i64 a2_2, .int .i64 a2_3, .int .i64 a2_4, .int .i64 a2_5, .int .i64 a2_6, .int .i64 a2_7] 25 (0, 0)) (by (with_reducible repeat (first | refine blk_drewN ?_ _ | refine blk_drew ?_ | refine blk_alloc ?_ _)); exact BK167.out) hb); have n1_ := Aside0.mk (below_step (by repeat (first | (with_reducible first | exact HB.out | apply below_alloc | apply pw_below_drewN | apply below_drew1 | refine below_set ?_ GE167.out) | exact HB.out)) hb); clear BK167; clear HB; have BK167 := n0_; have HB := n1_; clear n0_ n1_; (try clear hb); (try clear hb2); (try clear hk); (try clear hi)) | ((with_reducible refine gate_callee (f := 13) rfl ?_); refine goesL_ (some 26) rfl rfl Try.func13 (by kernel_rfl) rfl #[.slice A0 l0.length c0] rfl (by (try simp only [List.map_toArray, List.map_cons, List.map_nil]); first | done | rfl | (simp only [List.length_drop, List.length_take]; rfl)) ?_; (with_reducible refine (monitor_CheckLimits.calls k _ _ l0 t172 _ ?side1 ?side2 A7.out).mono ?_); (case side1 => repeat (first | exact (Kd.C_below HR0.out HB.out) | (with_reducible refine Kd.C_alloc ?_ _) | (with_reducible refine Kd.C_drewN ?_ _) | (with_reducible refine Kd.C_drew ?_))); (case side2 => exact HC0.out); rintro e w58 ⟨rfl, hb⟩; refine ⟨_, rfl, ?_⟩; have n0_ := Aside0.mk (blk_below (g := gb167) (o := .cells #[.string a2_0, .int .i64 a2_1, .int .i64 a2_2, .int .i64 a2_3, .int .i64 a2_4, .int .i64 a2_5, .int .i64 a2_6, .int .i64 a2_7] 25 (0, 0)) (by (with_reducible repeat (first | refine blk_drewN ?_ _ | refine blk_drew ?_ | refine blk_alloc ?_ _)); exact BK167.out) hb); have n1_ := Aside0.mk (below_step (by repeat (first | (with_reducible first | exact HB.out | apply below_alloc | apply pw_below_drewN | apply below_drew1 | refine below_set ?_ GE167.out) | exact HB.out)) hb); clear BK167; clear HB; have BK167 := n0_; have HB := n1_; clear n0_ n1_; (try clear hb); (try clear hb2); (try clear hk); (try clear hi)) | ((with_reducible refine gate_callee (f := 14) rfl ?_); refine goesL_ (some 28) rfl rfl Try.func14 (by kernel_rfl) rfl #[.slice A0 l0.length c0] rfl (by (try simp only [List.map_toArray, List.map_cons, List.map_nil]); first | done | rfl | (simp only [List.length_drop, List.length_take]; rfl)) ?_; (with_reducible refine (perigeeref8_CheckLimits.calls k _ _ l0 t173 _ ?side1 ?side2 A8.out).mono ?_); (case side1 => repeat (first | exact (Kd.C_below HR0.out HB.out) | (with_reducible refine Kd.C_alloc ?_ _) | (with_reducible refine Kd.C_drewN ?_ _) | (with_reducible refine Kd.C_drew ?_))); (case side2 => exact HC0.out); rintro e w59 ⟨rfl, hb⟩; refine ⟨_, rfl, ?_⟩; have n0_ := Aside0.mk (blk_below (g := gb167) (o := .cells #[.string a2_0, .int .i64 a2_1, .int .i64 a2_2, .int .i64 a2_3, .int .i64 a2_4, .int .i64 a2_5, .int .i64 a2_6, .int .i64 a2_7] 25 (0, 0)) (by (with_reducible repeat (first | refine blk_drewN ?_ _ | refine blk_drew ?_ | refine blk_alloc ?_ _)); exact BK167.out) hb); have n1_ := Aside0.mk (below_step (by repeat (first | (with_reducible first | exact HB.out | apply below_alloc | apply pw_below_drewN | apply below_drew1 | refine below_set ?_ GE167.out) | exact HB.out)) hb); clear BK167; clear HB; have BK167 := n0_; have HB := n1_; clear n0_ n1_; (try clear hb); (try clear hb2); (try clear hk); (try clear hi)))
    go_ret
    exact ⟨by first | rfl | (simp [errW_none, errW_some] <;> rfl) | (simp [*, errW_none, errW_some] <;> rfl), by repeat (first | (with_reducible first | exact HB.out | apply below_alloc | apply pw_below_drewN | apply below_drew1 | refine below_set ?_ GE167.out) | exact HB.out)⟩

end Go.Proofs.Ytodnfnnfjnnhmaa.P

-- YtodnfnnfjnnhmaaOpens
set_option linter.unusedVariables false
set_option linter.unusedSimpArgs false
namespace Go.Proofs.Ytodnfnnfjnnhmaa.Open
open Go.RowKit Go.Proofs.YtodnfnnfjnnhmaaW.PrintWords

/-- Cells that read as data of type t say a value of kind d, about which ok holds. -/
def Opens {α : Type} (P : Program) (d : Kd α) (t : TypeId) (ok : α → Prop) : Prop :=
  ∀ {H : Type} {enc : TypeId × Value → H} {w : World} {fuel : Nat} {cs : List Value} {x : DataW H × List MemPlace},
    DataW.trod enc P w 0 (fun _ => true) true fuel t cs = some x → (∀ n ∈ x.1.weights P t, n ≤ reachBytes) → ∃ y, d.K w y cs ∧ ok y

theorem opens_bool {P : Program} {t : TypeId} (ht : P.underlying t = some .bool) : Opens P Kd.bool t (fun _ => True) := by
  intro H enc w fuel cs x h _
  obtain ⟨b, rfl, _⟩ := DataW.trod_bool ht h
  exact ⟨b, rfl, trivial⟩

theorem opens_int {P : Program} {t : TypeId} {k : IntKind} (ht : P.underlying t = some (.int k)) : Opens P (Kd.int k) t (fun n => (Lit.int k n).wf = true) := by
  intro H enc w fuel cs x h _
  obtain ⟨n, rfl, _, hw⟩ := DataW.trod_int ht h
  exact ⟨n, rfl, hw⟩

theorem opens_i64 {P : Program} {t : TypeId} (ht : P.underlying t = some (.int .i64)) : Opens P (Kd.int .i64) t (fun n => -9223372036854775808 ≤ n ∧ n ≤ 9223372036854775807) := by
  intro H enc w fuel cs x h hx
  obtain ⟨y, hy, hw⟩ := opens_int ht h hx
  refine ⟨y, hy, ?_⟩
  simp [Lit.wf, IntKind.min, IntKind.max, IntKind.bits, IntKind.signed] at hw
  omega

theorem opens_u8 {P : Program} {t : TypeId} (ht : P.underlying t = some (.int .u8)) : Opens P (Kd.int .u8) t (fun n => 0 ≤ n ∧ n ≤ 255) := by
  intro H enc w fuel cs x h hx
  obtain ⟨y, hy, hw⟩ := opens_int ht h hx
  refine ⟨y, hy, ?_⟩
  simp [Lit.wf, IntKind.min, IntKind.max, IntKind.bits, IntKind.signed] at hw
  omega

theorem opens_string {P : Program} {t : TypeId} (ht : P.underlying t = some .string) : Opens P Kd.string t (fun s => s.size ≤ 140737488351232) := by
  intro H enc w fuel cs x h hx
  obtain ⟨s, rfl, rfl, hw⟩ := DataW.trod_string ht h
  refine ⟨s, rfl, ?_⟩
  have := hx s.data.toList.length (by simp [DataW.weights])
  rw [data_length] at this
  simpa [reachBytes] using this

theorem opens_iso {α β : Type} {P : Program} {d : Kd α} {t : TypeId} {ok : α → Prop} (f : β → α) (g : α → β) (hg : ∀ y, f (g y) = y) (h : Opens P d t ok) : Opens P (Kd.iso d f) t (fun x => ok (f x)) := by
  intro H enc w fuel cs x hx hw
  obtain ⟨y, hy, ho⟩ := h hx hw
  exact ⟨g y, by show d.K w (f (g y)) cs; rw [hg]; exact hy, by show ok (f (g y)); rw [hg]; exact ho⟩

theorem opens_imp {α : Type} {P : Program} {d : Kd α} {t : TypeId} {ok ok' : α → Prop} (hi : ∀ x, ok x → ok' x) (h : Opens P d t ok) : Opens P d t ok' := by
  intro H enc w fuel cs x hx hw
  obtain ⟨y, hy, ho⟩ := h hx hw
  exact ⟨y, hy, hi y ho⟩

theorem list_of {α : Type} (p : Nat → α → Prop) : ∀ n : Nat, (∀ i, i < n → ∃ y, p i y) → ∃ l : List α, l.length = n ∧ ∀ i y, l[i]? = some y → p i y := by
  intro n
  induction n with
  | zero => intro _; exact ⟨[], rfl, fun i y h => by simp at h⟩
  | succ n ih =>
    intro h
    obtain ⟨l, hl, hp⟩ := ih (fun i hi => h i (by omega))
    obtain ⟨y, hy⟩ := h n (by omega)
    refine ⟨l ++ [y], by simp [hl], fun i z hz => ?_⟩
    by_cases hi : i < l.length
    · exact hp i z (by rwa [List.getElem?_append_left hi] at hz)
    · rw [List.getElem?_append_right (by omega)] at hz
      have hi2 : i - l.length < 1 := by
        rcases Nat.lt_or_ge (i - l.length) 1 with h | h
        · exact h
        · rw [List.getElem?_eq_none (by simpa using h)] at hz
          cases hz
      have e : i = n := by omega
      subst e
      rw [hl] at hz
      simp at hz
      subst hz
      exact hy

theorem weightsAll_mem {H : Type} {P : Program} {e : TypeId} {d : DataW H} : ∀ {l : List (DataW H)}, d ∈ l → ∀ n ∈ d.weights P e, n ∈ DataW.weightsAll P e l := by
  intro l
  induction l with
  | nil => intro h; cases h
  | cons a l ih =>
    intro h n hn
    rw [DataW.weightsAll, List.mem_append]
    rcases List.mem_cons.1 h with rfl | h
    · exact .inl hn
    · exact .inr (ih h n hn)

theorem opens_slice {α : Type} {P : Program} {d : Kd α} {t e : TypeId} {ok : α → Prop} {B : Nat} (ht : P.underlying t = some (.slice e)) (hc : P.cellsOf e = d.sz) (hB : P.bytesOf e = B) (h : Opens P d e ok) :
    Opens P (Kd.slice e d) t (fun xs => xs.length ≤ 9223372036854775807 ∧ xs.length * B ≤ 140737488351232 ∧ ∀ x ∈ xs, ok x) := by
  intro H enc w fuel cs x hx hw
  rcases DataW.trod_slice ht hx with ⟨rfl, rfl⟩ | ⟨a, len, cap, elems, rest, n, _, rfl, rfl, hb, hl, hm, hlen, hel, hsp, _⟩
  · exact ⟨[], ⟨none, 0, rfl, Nat.le_refl _, Kd.C_nil d w⟩, by simp, by simp, by simp⟩
  · have each : ∀ i, i < len → ∃ y, (∃ c, c.length = d.sz ∧ d.K w y c ∧ ∀ j u, c[j]? = some u → w.cell? (a.add (i * d.sz + j)) = some u) ∧ ok y := by
      intro i hi
      have h1 := hel i hi
      have hi2 : i < elems.length := by omega
      rw [List.getElem?_eq_getElem hi2, Option.bind_eq_some_iff] at h1
      obtain ⟨c, hcs, h2⟩ := h1
      obtain ⟨_, hcl, hcc⟩ := World.cells?_some hcs
      obtain ⟨y, hy, ho⟩ := h h2 (fun m hm => hw m (by
        rw [DataW.weights]
        simp only [ht, List.mem_cons, List.mem_append]
        exact .inr (.inl (weightsAll_mem (List.mem_map_of_mem (f := Prod.fst) (List.getElem_mem hi2)) m hm))))
      refine ⟨y, ⟨c, by rw [hcl, hc], hy, fun j u hu => ?_⟩, ho⟩
      have hj : j < P.cellsOf e := by
        rcases Nat.lt_or_ge j c.length with h | h
        · omega
        · rw [List.getElem?_eq_none h] at hu
          cases hu
      have := hcc j hj
      rw [hu, Go.Addr.add_add, hc] at this
      exact this
    obtain ⟨l, hll, hp⟩ := list_of _ len each
    have hlb : len * B ≤ 140737488351232 := by
      have h1 : ((elems.map (·.1)).length + (rest.map (·.1)).length) * P.bytesOf e ≤ reachBytes := hw _ (by
        rw [DataW.weights]
        simp only [ht]
        exact List.mem_cons_self)
      rw [hB] at h1
      have h2 : len * B ≤ ((elems.map (·.1)).length + (rest.map (·.1)).length) * B := Nat.mul_le_mul_right _ (by simp; omega)
      simpa [reachBytes] using Nat.le_trans h2 h1
    refine ⟨l, ⟨some a, cap, by rw [hll], by omega, ⟨rfl, by simp only [maxLen] at hm; omega, fun _ => ⟨a, rfl, fun j p hj => (hp j p hj).1⟩⟩⟩, by simp only [maxLen] at hm; omega, by rw [hll]; exact hlb, fun x hx => ?_⟩
    obtain ⟨i, hi⟩ := List.getElem?_of_mem hx
    exact (hp i x hi).2

/-- The fields of a struct from one on. -/
def Fields {α : Type} (P : Program) (d : Kd α) (fs : List Field) (off tot : Nat) (ok : α → Prop) : Prop :=
  ∀ {H : Type} {enc : TypeId × Value → H} {w : World} {n : Nat} {cs : List Value} {xs : List (DataW H × List MemPlace)}, cs.length = tot → xs.length = fs.length →
    (∀ (i : Nat) (f : Field), fs[i]? = some f → DataW.trod enc P w 0 (fun _ => true) true n f.type ((cs.drop f.offset).take (P.cellsOf f.type)) = xs[i]?) →
    (∀ m ∈ DataW.weightsEach P (fs.map (·.type)) (xs.map (·.1)), m ≤ reachBytes) → ∃ y, d.K w y (cs.drop off) ∧ ok y

theorem fields_last {α : Type} {P : Program} {d : Kd α} {f : Field} {off tot : Nat} {ok : α → Prop} (h : Opens P d f.type ok) (ho : f.offset = off) (hc : off + P.cellsOf f.type = tot) : Fields P d [f] off tot ok := by
  intro H enc w n cs xs hcs hxs hf hw
  obtain ⟨x, rfl⟩ : ∃ x, xs = [x] := by
    match xs, hxs with
    | [x], _ => exact ⟨x, rfl⟩
  have h1 := hf 0 f rfl
  rw [ho, List.take_of_length_le (by simp; omega)] at h1
  exact h h1 (fun m hm => hw m (by simpa [DataW.weightsEach] using hm))

theorem fields_cons {α β : Type} {P : Program} {a : Kd α} {b : Kd β} {f : Field} {fs : List Field} {off tot : Nat} {okA : α → Prop} {okB : β → Prop} (h : Opens P a f.type okA) (ho : f.offset = off) (hs : Fields P b fs (off + P.cellsOf f.type) tot okB) :
    Fields P (Kd.pair a b) (f :: fs) off tot (fun y => okA y.1 ∧ okB y.2) := by
  intro H enc w n cs xs hcs hxs hf hw
  match xs, hxs with
  | x :: xs, hxs =>
    have h1 := hf 0 f rfl
    rw [ho] at h1
    obtain ⟨y, hy, hoy⟩ := h (x := x) h1 (fun m hm => hw m (by simp [DataW.weightsEach]; exact .inl hm))
    obtain ⟨z, hz, hoz⟩ := hs (xs := xs) hcs (by simpa using hxs) (fun i g hg => by have := hf (i + 1) g (by simpa using hg); simpa using this) (fun m hm => hw m (by
      simp only [List.map_cons, DataW.weightsEach, List.mem_append]
      exact .inr hm))
    exact ⟨(y, z), ⟨_, _, by rw [← List.drop_drop, List.take_append_drop], hy, hz⟩, hoy, hoz⟩

theorem opens_struct {α : Type} {P : Program} {d : Kd α} {t : TypeId} {fs : Array Field} {tot : Nat} {ok : α → Prop} (ht : P.underlying t = some (.struct fs)) (hc : P.cellsOf t = tot) (h : Fields P d fs.toList 0 tot ok) : Opens P d t ok := by
  intro H enc w fuel cs x hx hw
  obtain ⟨xs, n, _, rfl, hcl, hxl, hf⟩ := DataW.trod_struct ht hx
  have := h (enc := enc) (w := w) (n := n) (cs := cs) (xs := xs) (by rw [hcl, hc]) (by simpa using hxl) (fun i f hi => hf i f (by simpa using hi)) (fun m hm => hw m (by
    rw [DataW.weights]
    simp only [ht]
    exact hm))
  simpa using this

/-- A parameter that is a slice. -/
theorem param_slice {α : Type} {H : Type} {enc : TypeId × Value → H} {P : Program} {d : Kd α} {t e : TypeId} {ok : List α → Prop} {w : World} {a : Option Addr} {len cap : Nat} {x : DataW H} {ps : List MemPlace} {ts : List TypeId} {ds : List (DataW H)} {j : Nat}
    (hsz : (DataW.weightsEach P ts ds).all (· ≤ reachBytes) = true) (hj : ts[j]? = some t) (hd : ds[j]? = some x) (h : DataW.Trod enc P w 0 (fun _ => true) true t (.slice a len cap) x ps) (ho : Opens P (Kd.slice e d) t ok) :
    ∃ l, len = l.length ∧ l.length ≤ cap ∧ d.C w a l.length l ∧ ok l := by
  obtain ⟨fuel, hf⟩ := h
  obtain ⟨l, ⟨A, c, he, hl, hC⟩, hok⟩ := ho hf (weights_of hsz hj hd)
  simp [Value.cells] at he
  obtain ⟨rfl, rfl, rfl⟩ := he
  exact ⟨l, rfl, hl, hC, hok⟩
 where
  weights_of {H : Type} {P : Program} {t : TypeId} {x : DataW H} : ∀ {ts : List TypeId} {ds : List (DataW H)} {j : Nat}, (DataW.weightsEach P ts ds).all (· ≤ reachBytes) = true → ts[j]? = some t → ds[j]? = some x → ∀ n ∈ x.weights P t, n ≤ reachBytes := by
    intro ts
    induction ts with
    | nil => intro ds j _ h; simp at h
    | cons a ts ih =>
      intro ds j hw ht hd n hn
      match ds with
      | [] => simp at hd
      | d :: ds =>
        rw [DataW.weightsEach, List.all_append, Bool.and_eq_true] at hw
        cases j with
        | zero =>
          simp at ht hd
          subst ht; subst hd
          simpa using List.all_eq_true.1 hw.1 n hn
        | succ j => exact ih hw.2 (by simpa using ht) (by simpa using hd) n hn

/-- A parameter of any kind: its cells. -/
theorem param_any {α : Type} {H : Type} {enc : TypeId × Value → H} {P : Program} {d : Kd α} {t : TypeId} {ok : α → Prop} {w : World} {v : Value} {x : DataW H} {ps : List MemPlace} {ts : List TypeId} {ds : List (DataW H)} {j : Nat}
    (hsz : (DataW.weightsEach P ts ds).all (· ≤ reachBytes) = true) (hj : ts[j]? = some t) (hd : ds[j]? = some x) (h : DataW.Trod enc P w 0 (fun _ => true) true t v x ps) (ho : Opens P d t ok) :
    ∃ y, d.K w y v.cells.toList ∧ ok y := by
  obtain ⟨fuel, hf⟩ := h
  exact ho hf (param_slice.weights_of hsz hj hd)

def OkI (n : Int) : Prop := -9223372036854775808 ≤ n ∧ n ≤ 9223372036854775807
def OkU8 (n : Int) : Prop := 0 ≤ n ∧ n ≤ 255
def OkB (_ : Bool) : Prop := True
def OkS (s : ByteArray) : Prop := s.size ≤ 140737488351232
def OkL {α : Type} (B : Nat) (ok : α → Prop) (xs : List α) : Prop := xs.length ≤ 9223372036854775807 ∧ xs.length * B ≤ 140737488351232 ∧ ∀ x ∈ xs, ok x

theorem agg_eq {cs : Array Value} {l : List Value} (h : (Value.agg cs).cells.toList = l) : cs = l.toArray := by
  subst h
  simp [Value.cells]

end Go.Proofs.Ytodnfnnfjnnhmaa.Open

-- YtodnfnnfjnnhmaaOk
set_option linter.unusedVariables false
namespace Go.Proofs.Ytodnfnnfjnnhmaa.P
open Go.RowKit Go.Proofs.Ytodnfnnfjnnhmaa.Open Go.Proofs.Ytodnfnnfjnnhmaa.P Go.Proofs.YtodnfnnfjnnhmaaW.PrintWords Go.Proofs.YtodnfnnfjnnhmaaW.PrintLast Go.Proofs.YtodnfnnfjnnhmaaW.PrintMore

def ok25 (x : S25) : Prop := OkS x.f0 ∧ OkI x.f1 ∧ OkI x.f2 ∧ OkI x.f3 ∧ OkI x.f4 ∧ OkI x.f5 ∧ OkI x.f6 ∧ OkI x.f7
set_option maxRecDepth 100000 in
theorem opens25 : Opens Try.prog k25 25 ok25 := opens_iso _ (fun y => ⟨y.1, y.2.1, y.2.2.1, y.2.2.2.1, y.2.2.2.2.1, y.2.2.2.2.2.1, y.2.2.2.2.2.2.1, y.2.2.2.2.2.2.2⟩) (fun _ => rfl) (opens_struct (tot := 8) Try.underlying25 (by kernel_rfl) (fields_cons (opens_string Try.underlying9) (by kernel_rfl) (fields_cons (opens_i64 Try.underlying3) (by kernel_rfl) (fields_cons (opens_i64 Try.underlying3) (by kernel_rfl) (fields_cons (opens_i64 Try.underlying3) (by kernel_rfl) (fields_cons (opens_i64 Try.underlying3) (by kernel_rfl) (fields_cons (opens_i64 Try.underlying3) (by kernel_rfl) (fields_cons (opens_i64 Try.underlying3) (by kernel_rfl) (fields_last (opens_i64 Try.underlying3) (by kernel_rfl) (by kernel_rfl))))))))))
def ok35 (x : S35) : Prop := OkI x.f0 ∧ OkS x.f1 ∧ OkI x.f2
set_option maxRecDepth 100000 in
theorem opens35 : Opens Try.prog k35 35 ok35 := opens_iso _ (fun y => ⟨y.1, y.2.1, y.2.2⟩) (fun _ => rfl) (opens_struct (tot := 3) Try.underlying35 (by kernel_rfl) (fields_cons (opens_i64 Try.underlying3) (by kernel_rfl) (fields_cons (opens_string Try.underlying9) (by kernel_rfl) (fields_last (opens_i64 Try.underlying3) (by kernel_rfl) (by kernel_rfl)))))
end Go.Proofs.Ytodnfnnfjnnhmaa.P

-- YtodnfnnfjnnhmaaQ1
set_option linter.unusedVariables false
set_option linter.unusedSimpArgs false
namespace Go.Proofs.Ytodnfnnfjnnhmaa.Pure
open Go.RowKit Go.Proofs.Ytodnfnnfjnnhmaa.Open Go.Proofs.Ytodnfnnfjnnhmaa.P Go.Proofs.YtodnfnnfjnnhmaaW.PrintWords Go.Proofs.YtodnfnnfjnnhmaaW.PrintLast Go.Proofs.YtodnfnnfjnnhmaaW.PrintMore

theorem w64 {x : Int} (h : -9223372036854775808 ≤ x) (h' : x ≤ 9223372036854775807) : wrap64 x = x := by unfold wrap64; omega
theorem Ev.yes {α : Type} {c : Prop} {hd : Decidable c} {g g' : Nat → Option α} {r : α} (h : c) (e : Ev g r) : Ev (fun k => if c then g k else g' k) r := by
  simp only [if_pos h]; exact e
theorem Ev.no {α : Type} {c : Prop} {hd : Decidable c} {g g' : Nat → Option α} {r : α} (h : ¬ c) (e : Ev g' r) : Ev (fun k => if c then g k else g' k) r := by
  simp only [if_neg h]; exact e
theorem Ev.unique {α : Type} {g : Nat → Option α} {r s : α} (h : Ev g r) (h' : Ev g s) : r = s := by
  obtain ⟨K, h⟩ := h
  obtain ⟨K', h'⟩ := h'
  have h1 := h (max K K') (by omega)
  have h2 := h' (max K K') (by omega)
  rw [h1] at h2
  injection h2

theorem in_ev (a l h : Int) : kit_In.f a l h = some (decide (l ≤ a ∧ a ≤ h)) := by
  unfold kit_In.f
  by_cases h1 : l ≤ a <;> simp [h1]
theorem within_ev (a l h : Int) : perigeeref8_within.f a l h = some (decide (l ≤ a ∧ a ≤ h)) := by
  unfold perigeeref8_within.f
  by_cases h1 : a ≥ l
  · rw [if_pos h1]; simp [show l ≤ a from h1]
  · rw [if_neg h1]; simp [show ¬ l ≤ a from h1]
theorem value_ev (a : Int) : perigeeref8_value.f a = some (decide (-1000000000 ≤ a ∧ a ≤ 1000000000)) := by
  unfold perigeeref8_value.f
  rw [within_ev]; rfl
theorem range_ev (a l h : Int) : kit_Range.f a l h = some (if l ≤ a ∧ a ≤ h then 0 else 1) := by
  unfold kit_Range.f
  rw [in_ev]
  by_cases h1 : l ≤ a ∧ a ≤ h <;> simp [h1]

/-! ### names -/
def chOk (i : Int) (c : Int) : Prop := (97 ≤ c ∧ c ≤ 122) ∨ (i ≠ 0 ∧ (c = 45 ∨ c = 95 ∨ (48 ≤ c ∧ c ≤ 57)))
instance (i c : Int) : Decidable (chOk i c) := by unfold chOk; infer_instance
/-- the bytes from one on can stand in a name -/
def tailOk (s : ByteArray) (i : Nat) : Prop := ∀ j : Nat, i ≤ j → j < s.size → chOk j (bt s j)
noncomputable instance (s : ByteArray) (i : Nat) : Decidable (tailOk s i) := Classical.propDecidable _
theorem tail_step {s : ByteArray} {i : Nat} (h : i < s.size) : tailOk s i ↔ chOk i (bt s i) ∧ tailOk s (i + 1) := by
  constructor
  · intro h1
    exact ⟨h1 i (Nat.le_refl _) h, fun j hj hl => h1 j (by omega) hl⟩
  · intro ⟨h1, h2⟩ j hj hl
    rcases Nat.lt_or_ge i j with h3 | h3
    · exact h2 j h3 hl
    · obtain rfl : j = i := by omega
      exact h1
theorem tail_end {s : ByteArray} {i : Nat} (h : ¬ i < s.size) : tailOk s i := fun j hj hl => by omega

theorem mname_ev (s : ByteArray) (hs : s.size ≤ 140737488351232) : ∀ (d i : Nat), i + d = s.size → Ev (fun k => monitor_IsName.l0 k s (s.size : Int) i) (decide (tailOk s i)) := by
  intro d
  induction d with
  | zero =>
    intro i hi
    refine Ev.step (fun k => by rw [monitor_IsName.l0]) ?_
    rw [decide_eq_true (tail_end (by omega))]
    exact Ev.no (by omega) (Ev.now _)
  | succ d ih =>
    intro i hi
    have hlt : i < s.size := by omega
    have next := ih (i + 1) (by omega)
    have e : decide (tailOk s i) = (decide (chOk i (bt s i)) && decide (tailOk s (i + 1))) := by
      rw [← Bool.decide_and]
      exact decide_eq_decide.2 (tail_step hlt)
    rw [e]
    refine Ev.step (fun k => by rw [monitor_IsName.l0]) ?_
    rw [w64 (x := (i : Int) + 1) (by omega) (by omega)]
    refine Ev.yes (by omega) (Ev.yes (by omega) (Ev.yes (by omega) ?_))
    have yes : chOk i (bt s i) → Ev (fun k => monitor_IsName.l0 k s (s.size : Int) ((i : Int) + 1)) (decide (chOk i (bt s i)) && decide (tailOk s (i + 1))) := by
      intro h
      rw [decide_eq_true h, Bool.true_and]
      exact next
    have no : ¬ chOk i (bt s i) → Ev (fun _ => some false) (decide (chOk i (bt s i)) && decide (tailOk s (i + 1))) := by
      intro h
      rw [decide_eq_false h, Bool.false_and]
      exact Ev.now _
    by_cases h1 : bt s i < 97
    · refine Ev.yes h1 ?_
      by_cases h2 : (i : Int) = 0
      · exact Ev.yes h2 (no (by unfold chOk; omega))
      · refine Ev.no h2 ?_
        by_cases h3 : bt s i = 45
        · exact Ev.yes h3 (yes (by unfold chOk; omega))
        · refine Ev.no h3 ?_
          by_cases h4 : bt s i = 95
          · exact Ev.yes h4 (yes (by unfold chOk; omega))
          · refine Ev.no h4 ?_
            by_cases h5 : bt s i < 48
            · exact Ev.yes h5 (no (by unfold chOk; omega))
            · refine Ev.no h5 ?_
              by_cases h6 : bt s i > 57
              · exact Ev.yes h6 (no (by unfold chOk; omega))
              · exact Ev.no h6 (yes (by unfold chOk; omega))
    · refine Ev.no h1 ?_
      by_cases h7 : bt s i > 122
      · refine Ev.yes h7 ?_
        by_cases h2 : (i : Int) = 0
        · exact Ev.yes h2 (no (by unfold chOk; omega))
        · refine Ev.no h2 ?_
          by_cases h3 : bt s i = 45
          · exact Ev.yes h3 (yes (by unfold chOk; omega))
          · refine Ev.no h3 ?_
            by_cases h4 : bt s i = 95
            · exact Ev.yes h4 (yes (by unfold chOk; omega))
            · refine Ev.no h4 ?_
              by_cases h5 : bt s i < 48
              · exact Ev.yes h5 (no (by unfold chOk; omega))
              · refine Ev.no h5 ?_
                by_cases h6 : bt s i > 57
                · exact Ev.yes h6 (no (by unfold chOk; omega))
                · exact Ev.no h6 (yes (by unfold chOk; omega))
      · exact Ev.no h7 (yes (by unfold chOk; omega))

theorem rname_ev (s : ByteArray) (hs : s.size ≤ 140737488351232) : ∀ (d i : Nat), i + d = s.size → Ev (fun k => perigeeref8_IsName.l0 k s i) (decide (tailOk s i) && decide (1 ≤ s.size ∧ s.size ≤ 40)) := by
  intro d
  induction d with
  | zero =>
    intro i hi
    refine Ev.step (fun k => by rw [perigeeref8_IsName.l0]) ?_
    rw [decide_eq_true (tail_end (s := s) (i := i) (by omega)), Bool.true_and, within_ev]
    refine Ev.no (by omega) ?_
    simp only [Option.bind_some]
    rw [show decide (1 ≤ s.size ∧ s.size ≤ 40) = decide ((1 : Int) ≤ (s.size : Int) ∧ (s.size : Int) ≤ 40) from decide_eq_decide.2 (by omega)]
    exact Ev.now _
  | succ d ih =>
    intro i hi
    have hlt : i < s.size := by omega
    have next := ih (i + 1) (by omega)
    have e : decide (tailOk s i) = (decide (chOk i (bt s i)) && decide (tailOk s (i + 1))) := by
      rw [← Bool.decide_and]
      exact decide_eq_decide.2 (tail_step hlt)
    rw [e]
    refine Ev.step (fun k => by rw [perigeeref8_IsName.l0]) ?_
    rw [w64 (x := (i : Int) + 1) (by omega) (by omega)]
    refine Ev.yes (by omega) (Ev.yes (by omega) ?_)
    have yes : chOk i (bt s i) → Ev (fun k => perigeeref8_IsName.l0 k s ((i : Int) + 1)) (decide (chOk i (bt s i)) && decide (tailOk s (i + 1)) && decide (1 ≤ s.size ∧ s.size ≤ 40)) := by
      intro h
      rw [decide_eq_true h, Bool.true_and]
      exact next
    have no : ¬ chOk i (bt s i) → Ev (fun _ => some false) (decide (chOk i (bt s i)) && decide (tailOk s (i + 1)) && decide (1 ≤ s.size ∧ s.size ≤ 40)) := by
      intro h
      rw [decide_eq_false h, Bool.false_and, Bool.false_and]
      exact Ev.now _
    by_cases h1 : bt s i ≥ 97
    · refine Ev.yes h1 ?_
      by_cases h7 : bt s i ≤ 122
      · exact Ev.yes h7 (yes (by unfold chOk; omega))
      · refine Ev.no h7 ?_
        by_cases h2 : (i : Int) = 0
        · exact Ev.yes h2 (no (by unfold chOk; omega))
        · refine Ev.no h2 ?_
          by_cases h3 : bt s i = 45
          · exact Ev.yes h3 (yes (by unfold chOk; omega))
          · refine Ev.no h3 ?_
            by_cases h4 : bt s i = 95
            · exact Ev.yes h4 (yes (by unfold chOk; omega))
            · refine Ev.no h4 ?_
              by_cases h5 : bt s i ≥ 48
              · refine Ev.yes h5 ?_
                by_cases h6 : bt s i ≤ 57
                · exact Ev.yes h6 (yes (by unfold chOk; omega))
                · exact Ev.no h6 (no (by unfold chOk; omega))
              · exact Ev.no h5 (no (by unfold chOk; omega))
    · refine Ev.no h1 ?_
      by_cases h2 : (i : Int) = 0
      · exact Ev.yes h2 (no (by unfold chOk; omega))
      · refine Ev.no h2 ?_
        by_cases h3 : bt s i = 45
        · exact Ev.yes h3 (yes (by unfold chOk; omega))
        · refine Ev.no h3 ?_
          by_cases h4 : bt s i = 95
          · exact Ev.yes h4 (yes (by unfold chOk; omega))
          · refine Ev.no h4 ?_
            by_cases h5 : bt s i ≥ 48
            · refine Ev.yes h5 ?_
              by_cases h6 : bt s i ≤ 57
              · exact Ev.yes h6 (yes (by unfold chOk; omega))
              · exact Ev.no h6 (no (by unfold chOk; omega))
            · exact Ev.no h5 (no (by unfold chOk; omega))

/-- a name -/
noncomputable def nm (s : ByteArray) : Bool := decide (tailOk s 0) && decide (1 ≤ s.size ∧ s.size ≤ 40)
theorem empty_iff (s : ByteArray) : s.toList = ([] : List UInt8) ↔ s.size = 0 := by
  rw [Lib.toList_data]
  constructor
  · intro h
    have := congrArg List.length h
    rw [data_length] at this
    simpa using this
  · intro h
    rw [← data_length] at h
    exact List.eq_nil_of_length_eq_zero h
theorem monitor_name (s : ByteArray) (hs : s.size ≤ 140737488351232) : Ev (fun k => monitor_IsName.f k s) (nm s) := by
  unfold monitor_IsName.f nm
  by_cases h0 : s.toList = ([] : List UInt8)
  · have := (empty_iff s).1 h0
    refine Ev.yes h0 (Ev.step (fun k => by rw [monitor_IsName.j0]) (Ev.yes rfl ?_))
    rw [decide_eq_false (p := 1 ≤ s.size ∧ s.size ≤ 40) (by omega), Bool.and_false]
    exact Ev.now _
  · have h1 : s.size ≠ 0 := fun h => h0 ((empty_iff s).2 h)
    refine Ev.no h0 (Ev.step (fun k => by rw [monitor_IsName.j0]) ?_)
    by_cases h2 : (s.size : Int) > 40
    · rw [decide_eq_false (p := 1 ≤ s.size ∧ s.size ≤ 40) (by omega), Bool.and_false]
      exact Ev.yes (by simpa using h2) (Ev.now _)
    · rw [decide_eq_true (p := 1 ≤ s.size ∧ s.size ≤ 40) (by omega), Bool.and_true]
      exact Ev.no (by simpa using h2) (mname_ev s hs s.size 0 (by omega))
theorem ref_name (s : ByteArray) (hs : s.size ≤ 140737488351232) : Ev (fun k => perigeeref8_IsName.f k s) (nm s) := by
  unfold perigeeref8_IsName.f nm
  exact rname_ev s hs s.size 0 (by omega)

/-! ### limits -/
theorem rd_mid25 (a b : List S25) (x : S25) (i : Int) (h : i = a.length) : rd_T25 (a ++ x :: b) i = x := by
  subst h; simp [rd_T25]
theorem rd_mid35 (a b : List S35) (x : S35) (i : Int) (h : i = a.length) : rd_T35 (a ++ x :: b) i = x := by
  subst h; simp [rd_T35]

def In9 (n : Int) : Prop := -1000000000 ≤ n ∧ n ≤ 1000000000
instance (n : Int) : Decidable (In9 n) := by unfold In9; infer_instance
def prevL (pre : List S25) : Option ByteArray := pre.getLast?.map (·.f0)
def above (p : Option ByteArray) (s : ByteArray) : Bool := match p with | none => true | some q => Op.bytesLess q.toList s.toList
/-- the fault of a limit behind another one -/
noncomputable def lc (p : Option ByteArray) (x : S25) : Int :=
  if nm x.f0 = true then
    if In9 x.f1 ∧ In9 x.f2 ∧ In9 x.f3 ∧ In9 x.f4 then
      if x.f1 ≤ x.f2 ∧ x.f2 ≤ x.f3 ∧ x.f3 ≤ x.f4 then
        if (1 ≤ x.f5 ∧ x.f5 ≤ 100) ∧ (1 ≤ x.f6 ∧ x.f6 ≤ 100) ∧ (0 ≤ x.f7 ∧ x.f7 ≤ 1000000000) then
          if above p x.f0 = true then 0 else 8
        else 1
      else 8
    else 1
  else 5
noncomputable def ckL : Option ByteArray → List S25 → Int
  | _, [] => 0
  | p, x :: t => if lc p x = 0 then ckL (some x.f0) t else lc p x
noncomputable def checkL (l : List S25) : Int := if l.length > 200 then 2 else ckL none l

theorem mj3_ev {x0 : List S25} {pre t : List S25} {x : S25} (he : x0 = pre ++ x :: t) (hx : x0.length ≤ 200) (b : Bool) (r : Int) (h : Ev (fun k => monitor_CheckLimits.l0 k x0 x0 (x0.length : Int) ((pre.length : Int) + 1)) r) :
    Ev (fun k => monitor_CheckLimits.j3 k x0 (pre.length : Int) x0 (x0.length : Int) (pre.length : Int) b x.f0 x.f1 x.f2 x.f3 x.f4 x.f5 x.f6 x.f7) (if b = true then 1 else if above (prevL pre) x.f0 = true then r else 8) := by
  have hlen : x0.length = pre.length + (t.length + 1) := by rw [he]; simp
  refine Ev.step (fun k => by rw [monitor_CheckLimits.j3]) ?_
  rw [w64 (x := (pre.length : Int) + 1) (by omega) (by omega)]
  cases b with
  | true => exact Ev.yes rfl (Ev.now _)
  | false =>
    refine Ev.no (by simp) ?_
    rcases List.eq_nil_or_concat pre with h0 | ⟨c, y, h0⟩
    · rw [show above (prevL pre) x.f0 = true by rw [h0]; rfl]
      exact Ev.no (by rw [h0]; simp) (by simpa using h)
    · simp only [List.concat_eq_append] at h0
      have hpl : pre.length = c.length + 1 := by rw [h0]; simp
      have hry : rd_T25 x0 ((pre.length : Int) - 1) = y := by
        rw [he, h0, List.append_assoc, List.singleton_append]
        exact rd_mid25 _ _ _ _ (by simp only [List.length_append, List.length_cons, List.length_nil]; omega)
      have hab : above (prevL pre) x.f0 = Op.bytesLess y.f0.toList x.f0.toList := by rw [h0]; simp [prevL, above]
      rw [w64 (x := (pre.length : Int) - 1) (by omega) (by omega), hry, hab]
      refine Ev.yes (by omega) (Ev.yes (by omega) (Ev.yes (by omega) ?_))
      by_cases hb : Op.bytesLess y.f0.toList x.f0.toList = true
      · exact Ev.yes hb (by simpa [hb] using h)
      · exact Ev.no hb (by simpa [hb] using Ev.now _)
theorem rj3_ev {x0 : List S25} {pre t : List S25} {x : S25} (he : x0 = pre ++ x :: t) (hx : x0.length ≤ 200) (b : Bool) (r : Int) (h : Ev (fun k => perigeeref8_CheckLimits.l0 k x0 ((pre.length : Int) + 1)) r) :
    Ev (fun k => perigeeref8_CheckLimits.j3 k x0 (pre.length : Int) b x.f0 x.f1 x.f2 x.f3 x.f4 x.f5 x.f6 x.f7) (if b = true then 1 else if above (prevL pre) x.f0 = true then r else 8) := by
  have hlen : x0.length = pre.length + (t.length + 1) := by rw [he]; simp
  refine Ev.step (fun k => by rw [perigeeref8_CheckLimits.j3]) ?_
  rw [w64 (x := (pre.length : Int) + 1) (by omega) (by omega)]
  cases b with
  | true => exact Ev.yes rfl (Ev.now _)
  | false =>
    refine Ev.no (by simp) ?_
    rcases List.eq_nil_or_concat pre with h0 | ⟨c, y, h0⟩
    · rw [show above (prevL pre) x.f0 = true by rw [h0]; rfl]
      exact Ev.no (by rw [h0]; simp) (by simpa using h)
    · simp only [List.concat_eq_append] at h0
      have hpl : pre.length = c.length + 1 := by rw [h0]; simp
      have hry : rd_T25 x0 ((pre.length : Int) - 1) = y := by
        rw [he, h0, List.append_assoc, List.singleton_append]
        exact rd_mid25 _ _ _ _ (by simp only [List.length_append, List.length_cons, List.length_nil]; omega)
      have hab : above (prevL pre) x.f0 = Op.bytesLess y.f0.toList x.f0.toList := by rw [h0]; simp [prevL, above]
      rw [w64 (x := (pre.length : Int) - 1) (by omega) (by omega), hry, hab]
      refine Ev.yes (by omega) (Ev.yes (by omega) (Ev.yes (by omega) ?_))
      by_cases hb : Op.bytesLess y.f0.toList x.f0.toList = true
      · exact Ev.yes hb (by simpa [hb] using h)
      · exact Ev.no hb (by simpa [hb] using Ev.now _)

def Cnt (x : S25) : Prop := (1 ≤ x.f5 ∧ x.f5 ≤ 100) ∧ (1 ≤ x.f6 ∧ x.f6 ≤ 100) ∧ (0 ≤ x.f7 ∧ x.f7 ≤ 1000000000)
instance (x : S25) : Decidable (Cnt x) := by unfold Cnt; infer_instance
theorem mj2_ev {x0 : List S25} {pre t : List S25} {x : S25} (he : x0 = pre ++ x :: t) (hx : x0.length ≤ 200) (b : Bool) (r : Int) (h : Ev (fun k => monitor_CheckLimits.l0 k x0 x0 (x0.length : Int) ((pre.length : Int) + 1)) r) :
    Ev (fun k => monitor_CheckLimits.j2 k x0 (pre.length : Int) x0 (x0.length : Int) (pre.length : Int) b x.f0 x.f1 x.f2 x.f3 x.f4 x.f5 x.f6 x.f7) (if b = true then 8 else if Cnt x then (if above (prevL pre) x.f0 = true then r else 8) else 1) := by
  have h3 := fun b => mj3_ev he hx b r h
  refine Ev.step (fun k => by rw [monitor_CheckLimits.j2]) ?_
  cases b with
  | true => exact Ev.yes rfl (Ev.now _)
  | false =>
    refine Ev.no (by simp) ?_
    rw [in_ev, in_ev, in_ev]
    simp only [Option.bind_some]
    by_cases h5 : 1 ≤ x.f5 ∧ x.f5 ≤ 100
    · refine Ev.yes (by simpa using h5) ?_
      by_cases h6 : 1 ≤ x.f6 ∧ x.f6 ≤ 100
      · refine Ev.yes (by simpa using h6) ?_
        by_cases h7 : 0 ≤ x.f7 ∧ x.f7 ≤ 1000000000
        · simpa [h7, Cnt, h5, h6] using h3 false
        · simpa [h7, Cnt, h5, h6] using h3 true
      · refine Ev.no (by simpa using h6) ?_
        simpa [Cnt, h5, h6] using h3 true
    · refine Ev.no (by simpa using h5) ?_
      simpa [Cnt, h5] using h3 true
theorem rj2_ev {x0 : List S25} {pre t : List S25} {x : S25} (he : x0 = pre ++ x :: t) (hx : x0.length ≤ 200) (b : Bool) (r : Int) (h : Ev (fun k => perigeeref8_CheckLimits.l0 k x0 ((pre.length : Int) + 1)) r) :
    Ev (fun k => perigeeref8_CheckLimits.j2 k x0 (pre.length : Int) b x.f0 x.f1 x.f2 x.f3 x.f4 x.f5 x.f6 x.f7) (if b = true then 8 else if Cnt x then (if above (prevL pre) x.f0 = true then r else 8) else 1) := by
  have h3 := fun b => rj3_ev he hx b r h
  refine Ev.step (fun k => by rw [perigeeref8_CheckLimits.j2]) ?_
  cases b with
  | true => exact Ev.yes rfl (Ev.now _)
  | false =>
    refine Ev.no (by simp) ?_
    rw [within_ev, within_ev, within_ev]
    simp only [Option.bind_some]
    by_cases h5 : 1 ≤ x.f5 ∧ x.f5 ≤ 100
    · refine Ev.yes (by simpa using h5) ?_
      by_cases h6 : 1 ≤ x.f6 ∧ x.f6 ≤ 100
      · refine Ev.yes (by simpa using h6) ?_
        by_cases h7 : 0 ≤ x.f7 ∧ x.f7 ≤ 1000000000
        · simpa [h7, Cnt, h5, h6] using h3 false
        · simpa [h7, Cnt, h5, h6] using h3 true
      · refine Ev.no (by simpa using h6) ?_
        simpa [Cnt, h5, h6] using h3 true
    · refine Ev.no (by simpa using h5) ?_
      simpa [Cnt, h5] using h3 true

def Ord (x : S25) : Prop := x.f1 ≤ x.f2 ∧ x.f2 ≤ x.f3 ∧ x.f3 ≤ x.f4
instance (x : S25) : Decidable (Ord x) := by unfold Ord; infer_instance
def Val (x : S25) : Prop := In9 x.f1 ∧ In9 x.f2 ∧ In9 x.f3 ∧ In9 x.f4
instance (x : S25) : Decidable (Val x) := by unfold Val; infer_instance
theorem rj1_ev {x0 : List S25} {pre t : List S25} {x : S25} (he : x0 = pre ++ x :: t) (hx : x0.length ≤ 200) (b : Bool) (r : Int) (h : Ev (fun k => perigeeref8_CheckLimits.l0 k x0 ((pre.length : Int) + 1)) r) :
    Ev (fun k => perigeeref8_CheckLimits.j1 k x0 (pre.length : Int) b x.f0 x.f1 x.f2 x.f3 x.f4 x.f5 x.f6 x.f7) (if b = true then 1 else if Ord x then (if Cnt x then (if above (prevL pre) x.f0 = true then r else 8) else 1) else 8) := by
  have h2 := fun b => rj2_ev he hx b r h
  refine Ev.step (fun k => by rw [perigeeref8_CheckLimits.j1]) ?_
  cases b with
  | true => exact Ev.yes rfl (Ev.now _)
  | false =>
    refine Ev.no (by simp) ?_
    by_cases a1 : x.f1 > x.f2
    · refine Ev.yes a1 ?_
      have : ¬ Ord x := fun h => by have := h.1; omega
      simpa [this] using h2 true
    · refine Ev.no a1 ?_
      by_cases a2 : x.f2 > x.f3
      · refine Ev.yes a2 ?_
        have : ¬ Ord x := fun h => by have := h.2.1; omega
        simpa [this] using h2 true
      · refine Ev.no a2 ?_
        by_cases a3 : x.f3 > x.f4
        · have : ¬ Ord x := fun h => by have := h.2.2; omega
          rw [decide_eq_true a3]
          simpa [this] using h2 true
        · have : Ord x := ⟨by omega, by omega, by omega⟩
          rw [decide_eq_false a3]
          simpa [this] using h2 false
theorem ml1_ev {x0 : List S25} {pre t : List S25} {x : S25} (he : x0 = pre ++ x :: t) (hx : x0.length ≤ 200) (r : Int) (h : Ev (fun k => monitor_CheckLimits.l0 k x0 x0 (x0.length : Int) ((pre.length : Int) + 1)) r) :
    Ev (fun k => monitor_CheckLimits.l1 k x0 (pre.length : Int) x0 (x0.length : Int) (pre.length : Int) [x.f1, x.f2, x.f3, x.f4] 4 0 x.f0 x.f1 x.f2 x.f3 x.f4 x.f5 x.f6 x.f7) (if Val x then (if Ord x then (if Cnt x then (if above (prevL pre) x.f0 = true then r else 8) else 1) else 8) else 1) := by
  have h2 := fun b => mj2_ev he hx b r h
  have last : Val x → Ev (fun k => monitor_CheckLimits.l1 k x0 (pre.length : Int) x0 (x0.length : Int) (pre.length : Int) [x.f1, x.f2, x.f3, x.f4] 4 4 x.f0 x.f1 x.f2 x.f3 x.f4 x.f5 x.f6 x.f7) (if Ord x then (if Cnt x then (if above (prevL pre) x.f0 = true then r else 8) else 1) else 8) := by
    intro hv
    refine Ev.step (fun k => by rw [monitor_CheckLimits.l1]) ?_
    refine Ev.no (by omega) ?_
    by_cases a1 : x.f2 < x.f1
    · refine Ev.yes a1 ?_
      have : ¬ Ord x := fun h => by have := h.1; omega
      simpa [this] using h2 true
    · refine Ev.no a1 ?_
      by_cases a2 : x.f3 < x.f2
      · refine Ev.yes a2 ?_
        have : ¬ Ord x := fun h => by have := h.2.1; omega
        simpa [this] using h2 true
      · refine Ev.no a2 ?_
        by_cases a3 : x.f4 < x.f3
        · have : ¬ Ord x := fun h => by have := h.2.2; omega
          rw [decide_eq_true a3]
          simpa [this] using h2 true
        · have : Ord x := ⟨by omega, by omega, by omega⟩
          rw [decide_eq_false a3]
          simpa [this] using h2 false
  have r0 : rd [x.f1, x.f2, x.f3, x.f4] 0 = x.f1 := rfl
  have r1 : rd [x.f1, x.f2, x.f3, x.f4] 1 = x.f2 := rfl
  have r2 : rd [x.f1, x.f2, x.f3, x.f4] 2 = x.f3 := rfl
  have r3 : rd [x.f1, x.f2, x.f3, x.f4] 3 = x.f4 := rfl
  have l4 : ((([x.f1, x.f2, x.f3, x.f4] : List Int).length : Nat) : Int) = 4 := rfl
  have e1 : wrap64 (0 + 1) = 1 := w64 (by omega) (by omega)
  have e2 : wrap64 (1 + 1) = 2 := w64 (by omega) (by omega)
  have e3 : wrap64 (2 + 1) = 3 := w64 (by omega) (by omega)
  have e4 : wrap64 (3 + 1) = 4 := w64 (by omega) (by omega)
  refine Ev.step (fun k => by rw [monitor_CheckLimits.l1]) ?_
  rw [r0, in_ev, e1, l4]
  simp only [Option.bind_some]
  refine Ev.yes (by omega) (Ev.yes (by omega) (Ev.yes (by omega) ?_))
  by_cases v1 : In9 x.f1
  · refine Ev.yes (by simpa [In9] using v1) ?_
    refine Ev.step (fun k => by rw [monitor_CheckLimits.l1]) ?_
    rw [r1, in_ev, e2, l4]
    simp only [Option.bind_some]
    refine Ev.yes (by omega) (Ev.yes (by omega) (Ev.yes (by omega) ?_))
    by_cases v2 : In9 x.f2
    · refine Ev.yes (by simpa [In9] using v2) ?_
      refine Ev.step (fun k => by rw [monitor_CheckLimits.l1]) ?_
      rw [r2, in_ev, e3, l4]
      simp only [Option.bind_some]
      refine Ev.yes (by omega) (Ev.yes (by omega) (Ev.yes (by omega) ?_))
      by_cases v3 : In9 x.f3
      · refine Ev.yes (by simpa [In9] using v3) ?_
        refine Ev.step (fun k => by rw [monitor_CheckLimits.l1]) ?_
        rw [r3, in_ev, e4, l4]
        simp only [Option.bind_some]
        refine Ev.yes (by omega) (Ev.yes (by omega) (Ev.yes (by omega) ?_))
        by_cases v4 : In9 x.f4
        · refine Ev.yes (by simpa [In9] using v4) ?_
          rw [if_pos (show Val x from ⟨v1, v2, v3, v4⟩)]
          exact last ⟨v1, v2, v3, v4⟩
        · refine Ev.no (by simpa [In9] using v4) ?_
          rw [if_neg (show ¬ Val x from fun h => v4 h.2.2.2)]
          exact Ev.now _
      · refine Ev.no (by simpa [In9] using v3) ?_
        rw [if_neg (show ¬ Val x from fun h => v3 h.2.2.1)]
        exact Ev.now _
    · refine Ev.no (by simpa [In9] using v2) ?_
      rw [if_neg (show ¬ Val x from fun h => v2 h.2.1)]
      exact Ev.now _
  · refine Ev.no (by simpa [In9] using v1) ?_
    rw [if_neg (show ¬ Val x from fun h => v1 h.1)]
    exact Ev.now _

theorem lc_eq (p : Option ByteArray) (x : S25) (t : List S25) : ckL p (x :: t) = (if nm x.f0 = true then (if Val x then (if Ord x then (if Cnt x then (if above p x.f0 = true then ckL (some x.f0) t else 8) else 1) else 8) else 1) else 5) := by
  have e : lc p x = (if nm x.f0 = true then (if Val x then (if Ord x then (if Cnt x then (if above p x.f0 = true then 0 else 8) else 1) else 8) else 1) else 5) := rfl
  rw [ckL, e]
  by_cases h1 : nm x.f0 = true
  · by_cases h2 : Val x
    · by_cases h3 : Ord x
      · by_cases h4 : Cnt x
        · by_cases h5 : above p x.f0 = true
          · simp [h1, h2, h3, h4, h5]
          · simp [h1, h2, h3, h4, h5]
        · simp [h1, h2, h3, h4]
      · simp [h1, h2, h3]
    · simp [h1, h2]
  · simp [h1]

theorem limits_ev (x0 : List S25) (hx : x0.length ≤ 200) (hn : ∀ z ∈ x0, OkS z.f0) : ∀ (rest pre : List S25), x0 = pre ++ rest →
    Ev (fun k => monitor_CheckLimits.l0 k x0 x0 (x0.length : Int) pre.length) (ckL (prevL pre) rest) ∧ Ev (fun k => perigeeref8_CheckLimits.l0 k x0 pre.length) (ckL (prevL pre) rest) := by
  intro rest
  induction rest with
  | nil =>
    intro pre he
    have hl : x0.length = pre.length := by rw [he]; simp
    rw [show ckL (prevL pre) [] = 0 by simp [ckL]]
    constructor
    · refine Ev.step (fun k => by rw [monitor_CheckLimits.l0]) ?_
      exact Ev.no (by omega) (Ev.now _)
    · refine Ev.step (fun k => by rw [perigeeref8_CheckLimits.l0]) ?_
      exact Ev.no (by omega) (Ev.now _)
  | cons x t ih =>
    intro pre he
    have hlen : x0.length = pre.length + (t.length + 1) := by rw [he]; simp
    have hrd : rd_T25 x0 pre.length = x := by rw [he]; exact rd_mid25 _ _ _ _ rfl
    have hxn := hn x (by rw [he]; simp)
    have next := ih (pre ++ [x]) (by rw [he]; simp)
    rw [show prevL (pre ++ [x]) = some x.f0 by simp [prevL]] at next
    simp only [List.length_append, List.length_cons, List.length_nil] at next
    rw [show ((pre.length + (0 + 1) : Nat) : Int) = (pre.length : Int) + 1 by omega] at next
    rw [lc_eq]
    constructor
    · refine Ev.step (fun k => by rw [monitor_CheckLimits.l0]) ?_
      rw [hrd]
      refine Ev.yes (by omega) (Ev.yes (by omega) (Ev.yes (by omega) (Ev.bind (monitor_name _ hxn) ?_)))
      by_cases h1 : nm x.f0 = true
      · rw [if_pos h1]
        refine Ev.yes h1 ?_
        simp only [Option.bind_some]
        exact ml1_ev he hx _ next.1
      · rw [if_neg h1]
        exact Ev.no h1 (Ev.now _)
    · refine Ev.step (fun k => by rw [perigeeref8_CheckLimits.l0]) ?_
      rw [hrd]
      refine Ev.yes (by omega) (Ev.yes (by omega) (Ev.bind (ref_name _ hxn) ?_))
      by_cases h1 : nm x.f0 = true
      · rw [if_pos h1]
        refine Ev.yes h1 ?_
        rw [value_ev, value_ev, value_ev, value_ev]
        simp only [Option.bind_some]
        have h2 := fun b => rj1_ev he hx b _ next.2
        by_cases v1 : In9 x.f1
        · refine Ev.yes (by simpa [In9] using v1) ?_
          by_cases v2 : In9 x.f2
          · refine Ev.yes (by simpa [In9] using v2) ?_
            by_cases v3 : In9 x.f3
            · refine Ev.yes (by simpa [In9] using v3) ?_
              by_cases v4 : In9 x.f4
              · rw [if_pos (show Val x from ⟨v1, v2, v3, v4⟩), decide_eq_true (show -1000000000 ≤ x.f4 ∧ x.f4 ≤ 1000000000 from v4)]
                simpa using h2 false
              · rw [if_neg (show ¬ Val x from fun h => v4 h.2.2.2), decide_eq_false (show ¬ (-1000000000 ≤ x.f4 ∧ x.f4 ≤ 1000000000) from v4)]
                simpa using h2 true
            · rw [if_neg (show ¬ Val x from fun h => v3 h.2.2.1)]
              exact Ev.no (by simpa [In9] using v3) (by simpa using h2 true)
          · rw [if_neg (show ¬ Val x from fun h => v2 h.2.1)]
            exact Ev.no (by simpa [In9] using v2) (by simpa using h2 true)
        · rw [if_neg (show ¬ Val x from fun h => v1 h.1)]
          exact Ev.no (by simpa [In9] using v1) (by simpa using h2 true)
      · rw [if_neg h1]
        exact Ev.no h1 (Ev.now _)

theorem monitor_limits (l : List S25) (hn : ∀ z ∈ l, OkS z.f0) : Ev (fun k => monitor_CheckLimits.f k l) (checkL l) := by
  unfold monitor_CheckLimits.f checkL
  by_cases h : l.length > 200
  · rw [if_pos h]
    exact Ev.yes (by omega) (Ev.now _)
  · rw [if_neg h]
    exact Ev.no (by omega) (limits_ev l (by omega) hn l [] (by simp)).1
theorem ref_limits (l : List S25) (hn : ∀ z ∈ l, OkS z.f0) : Ev (fun k => perigeeref8_CheckLimits.f k l) (checkL l) := by
  unfold perigeeref8_CheckLimits.f checkL
  by_cases h : l.length > 200
  · rw [if_pos h]
    exact Ev.yes (by omega) (Ev.now _)
  · rw [if_neg h]
    exact Ev.no (by omega) (limits_ev l (by omega) hn l [] (by simp)).2

end Go.Proofs.Ytodnfnnfjnnhmaa.Pure

-- YtodnfnnfjnnhmaaQ2
set_option linter.unusedVariables false
set_option linter.unusedSimpArgs false
namespace Go.Proofs.Ytodnfnnfjnnhmaa.Pure
open Go.RowKit Go.Proofs.Ytodnfnnfjnnhmaa.Open Go.Proofs.Ytodnfnnfjnnhmaa.P Go.Proofs.YtodnfnnfjnnhmaaW.PrintWords Go.Proofs.YtodnfnnfjnnhmaaW.PrintLast Go.Proofs.YtodnfnnfjnnhmaaW.PrintMore

/-! ### samples -/
def prevS (pre : List S35) : Option S35 := pre.getLast?
/-- a sample comes behind another one -/
def behind (p : Option S35) (x : S35) : Bool := match p with | none => true | some q => decide (q.f0 < x.f0) || (decide (q.f0 = x.f0) && Op.bytesLess q.f1.toList x.f1.toList)
noncomputable def ckS : Option S35 → List S35 → Int
  | _, [] => 0
  | p, x :: t =>
    if 0 ≤ x.f0 ∧ x.f0 ≤ 1000000000000 then
      if nm x.f1 = true then
        if In9 x.f2 then
          if behind p x = true then ckS (some x) t else 8
        else 1
      else 5
    else 1
noncomputable def checkS (l : List S35) : Int := if l.length > 5000 then 2 else ckS none l

theorem before_ev (q x : S35) : monitor_before.f q.f0 q.f1 q.f2 x.f0 x.f1 x.f2 = some (behind (some q) x) := by
  unfold monitor_before.f behind
  by_cases h1 : q.f0 < x.f0
  · simp [h1]
  · by_cases h2 : q.f0 = x.f0
    · rw [if_neg h1, if_pos h2]
      simp [h2]
    · simp [h1, h2]

theorem samples_ev (x0 : List S35) (hx : x0.length ≤ 5000) (hn : ∀ z ∈ x0, OkS z.f1) : ∀ (rest pre : List S35), x0 = pre ++ rest →
    Ev (fun k => monitor_CheckSamples.l0 k x0 x0 (x0.length : Int) pre.length) (ckS (prevS pre) rest) ∧ Ev (fun k => perigeeref8_CheckSamples.l0 k x0 pre.length) (ckS (prevS pre) rest) := by
  intro rest
  induction rest with
  | nil =>
    intro pre he
    have hl : x0.length = pre.length := by rw [he]; simp
    rw [show ckS (prevS pre) [] = 0 by simp [ckS]]
    constructor
    · refine Ev.step (fun k => by rw [monitor_CheckSamples.l0]) ?_
      exact Ev.no (by omega) (Ev.now _)
    · refine Ev.step (fun k => by rw [perigeeref8_CheckSamples.l0]) ?_
      exact Ev.no (by omega) (Ev.now _)
  | cons x t ih =>
    intro pre he
    have hlen : x0.length = pre.length + (t.length + 1) := by rw [he]; simp
    have hrd : rd_T35 x0 pre.length = x := by rw [he]; exact rd_mid35 _ _ _ _ rfl
    have hxn := hn x (by rw [he]; simp)
    have next := ih (pre ++ [x]) (by rw [he]; simp)
    rw [show prevS (pre ++ [x]) = some x by simp [prevS]] at next
    simp only [List.length_append, List.length_cons, List.length_nil] at next
    rw [show ((pre.length + (0 + 1) : Nat) : Int) = (pre.length : Int) + 1 by omega] at next
    have hw : wrap64 ((pre.length : Int) + 1) = (pre.length : Int) + 1 := w64 (by omega) (by omega)
    rw [ckS]
    by_cases h1 : 0 ≤ x.f0 ∧ x.f0 ≤ 1000000000000
    · rw [if_pos h1]
      by_cases h2 : nm x.f1 = true
      · rw [if_pos h2]
        by_cases h3 : In9 x.f2
        · rw [if_pos h3]
          constructor
          · refine Ev.step (fun k => by rw [monitor_CheckSamples.l0]) ?_
            rw [hrd, in_ev, in_ev, hw]
            refine Ev.yes (by omega) (Ev.yes (by omega) (Ev.yes (by omega) ?_))
            simp only [Option.bind_some]
            refine Ev.yes (by simpa using h1) (Ev.bind (monitor_name _ hxn) (Ev.yes h2 (Ev.yes (by simpa [In9] using h3) ?_)))
            rcases List.eq_nil_or_concat pre with h0 | ⟨c, y, h0⟩
            · refine Ev.no (by rw [h0]; simp) ?_
              rw [show behind (prevS pre) x = true by rw [h0]; rfl, if_pos rfl]
              exact next.1
            · simp only [List.concat_eq_append] at h0
              have hpl : pre.length = c.length + 1 := by rw [h0]; simp
              have hry : rd_T35 x0 ((pre.length : Int) - 1) = y := by
                rw [he, h0, List.append_assoc, List.singleton_append]
                exact rd_mid35 _ _ _ _ (by simp only [List.length_append, List.length_cons, List.length_nil]; omega)
              rw [w64 (x := (pre.length : Int) - 1) (by omega) (by omega), hry, before_ev, show prevS pre = some y by rw [h0]; simp [prevS]]
              refine Ev.yes (by omega) (Ev.yes (by omega) (Ev.yes (by omega) ?_))
              simp only [Option.bind_some]
              by_cases hb : behind (some y) x = true
              · rw [if_pos hb]
                exact Ev.yes hb next.1
              · rw [if_neg hb]
                exact Ev.no hb (Ev.now _)
          · refine Ev.step (fun k => by rw [perigeeref8_CheckSamples.l0]) ?_
            rw [hrd, within_ev, value_ev, hw]
            refine Ev.yes (by omega) (Ev.yes (by omega) ?_)
            simp only [Option.bind_some]
            refine Ev.yes (by simpa using h1) (Ev.bind (ref_name _ hxn) (Ev.yes h2 (Ev.yes (by simpa [In9] using h3) ?_)))
            rcases List.eq_nil_or_concat pre with h0 | ⟨c, y, h0⟩
            · refine Ev.no (by rw [h0]; simp) ?_
              rw [show behind (prevS pre) x = true by rw [h0]; rfl, if_pos rfl]
              exact next.2
            · simp only [List.concat_eq_append] at h0
              have hpl : pre.length = c.length + 1 := by rw [h0]; simp
              have hry : rd_T35 x0 ((pre.length : Int) - 1) = y := by
                rw [he, h0, List.append_assoc, List.singleton_append]
                exact rd_mid35 _ _ _ _ (by simp only [List.length_append, List.length_cons, List.length_nil]; omega)
              rw [w64 (x := (pre.length : Int) - 1) (by omega) (by omega), hry, show prevS pre = some y by rw [h0]; simp [prevS]]
              refine Ev.yes (by omega) (Ev.yes (by omega) (Ev.yes (by omega) ?_))
              by_cases ha : x.f0 < y.f0
              · rw [show behind (some y) x = false by simp [behind]; omega, if_neg (by simp)]
                exact Ev.yes ha (Ev.now _)
              · refine Ev.no ha ?_
                by_cases hc : x.f0 = y.f0
                · refine Ev.yes hc ?_
                  rw [show behind (some y) x = Op.bytesLess y.f1.toList x.f1.toList by simp [behind, hc]]
                  by_cases hb : Op.bytesLess y.f1.toList x.f1.toList = true
                  · rw [if_pos hb]
                    exact Ev.yes hb next.2
                  · rw [if_neg hb]
                    exact Ev.no hb (Ev.now _)
                · rw [show behind (some y) x = true by simp [behind]; omega, if_pos rfl]
                  exact Ev.no hc next.2
        · rw [if_neg h3]
          constructor
          · refine Ev.step (fun k => by rw [monitor_CheckSamples.l0]) ?_
            rw [hrd, in_ev, in_ev]
            refine Ev.yes (by omega) (Ev.yes (by omega) (Ev.yes (by omega) ?_))
            simp only [Option.bind_some]
            exact Ev.yes (by simpa using h1) (Ev.bind (monitor_name _ hxn) (Ev.yes h2 (Ev.no (by simpa [In9] using h3) (Ev.now _))))
          · refine Ev.step (fun k => by rw [perigeeref8_CheckSamples.l0]) ?_
            rw [hrd, within_ev, value_ev]
            refine Ev.yes (by omega) (Ev.yes (by omega) ?_)
            simp only [Option.bind_some]
            exact Ev.yes (by simpa using h1) (Ev.bind (ref_name _ hxn) (Ev.yes h2 (Ev.no (by simpa [In9] using h3) (Ev.now _))))
      · rw [if_neg h2]
        constructor
        · refine Ev.step (fun k => by rw [monitor_CheckSamples.l0]) ?_
          rw [hrd, in_ev]
          refine Ev.yes (by omega) (Ev.yes (by omega) (Ev.yes (by omega) ?_))
          simp only [Option.bind_some]
          exact Ev.yes (by simpa using h1) (Ev.bind (monitor_name _ hxn) (Ev.no h2 (Ev.now _)))
        · refine Ev.step (fun k => by rw [perigeeref8_CheckSamples.l0]) ?_
          rw [hrd, within_ev]
          refine Ev.yes (by omega) (Ev.yes (by omega) ?_)
          simp only [Option.bind_some]
          exact Ev.yes (by simpa using h1) (Ev.bind (ref_name _ hxn) (Ev.no h2 (Ev.now _)))
    · rw [if_neg h1]
      constructor
      · refine Ev.step (fun k => by rw [monitor_CheckSamples.l0]) ?_
        rw [hrd, in_ev]
        refine Ev.yes (by omega) (Ev.yes (by omega) (Ev.yes (by omega) ?_))
        simp only [Option.bind_some]
        exact Ev.no (by simpa using h1) (Ev.now _)
      · refine Ev.step (fun k => by rw [perigeeref8_CheckSamples.l0]) ?_
        rw [hrd, within_ev]
        refine Ev.yes (by omega) (Ev.yes (by omega) ?_)
        simp only [Option.bind_some]
        exact Ev.no (by simpa using h1) (Ev.now _)

theorem monitor_samples (l : List S35) (hn : ∀ z ∈ l, OkS z.f1) : Ev (fun k => monitor_CheckSamples.f k l) (checkS l) := by
  unfold monitor_CheckSamples.f checkS
  by_cases h : l.length > 5000
  · rw [if_pos h]
    exact Ev.yes (by omega) (Ev.now _)
  · rw [if_neg h]
    exact Ev.no (by omega) (samples_ev l (by omega) hn l [] (by simp)).1
theorem ref_samples (l : List S35) (hn : ∀ z ∈ l, OkS z.f1) : Ev (fun k => perigeeref8_CheckSamples.f k l) (checkS l) := by
  unfold perigeeref8_CheckSamples.f checkS
  by_cases h : l.length > 5000
  · rw [if_pos h]
    exact Ev.yes (by omega) (Ev.now _)
  · rw [if_neg h]
    exact Ev.no (by omega) (samples_ev l (by omega) hn l [] (by simp)).2

/-! ### the state of a value by itself -/
def stOf (x : S25) (v : Int) : Int := if v < x.f1 ∨ v > x.f4 then 2 else if v < x.f2 ∨ v > x.f3 then 1 else 0
theorem stOf_range (x : S25) (v : Int) : 0 ≤ stOf x v ∧ stOf x v ≤ 2 := by
  unfold stOf
  split
  · omega
  · split <;> omega
theorem monitor_st (x : S25) (v : Int) : Ev (fun k => monitor_state.f k x.f0 x.f1 x.f2 x.f3 x.f4 x.f5 x.f6 x.f7 v) (stOf x v) := by
  unfold monitor_state.f stOf
  by_cases h1 : v < x.f1
  · refine Ev.yes h1 (Ev.step (fun k => by rw [monitor_state.j0]) ?_)
    rw [if_pos (show v < x.f1 ∨ v > x.f4 from .inl h1)]
    exact Ev.yes rfl (Ev.now _)
  · refine Ev.no h1 (Ev.step (fun k => by rw [monitor_state.j0]) ?_)
    by_cases h2 : v > x.f4
    · rw [if_pos (show v < x.f1 ∨ v > x.f4 from .inr h2)]
      exact Ev.yes (by simpa using h2) (Ev.now _)
    · rw [if_neg (show ¬ (v < x.f1 ∨ v > x.f4) by omega)]
      refine Ev.no (by simpa using h2) ?_
      by_cases h3 : v < x.f2
      · rw [if_pos (show v < x.f2 ∨ v > x.f3 from .inl h3)]
        exact Ev.yes h3 (Ev.now _)
      · by_cases h4 : v > x.f3
        · rw [if_pos (show v < x.f2 ∨ v > x.f3 from .inr h4)]
          exact Ev.no h3 (Ev.yes h4 (Ev.now _))
        · rw [if_neg (show ¬ (v < x.f2 ∨ v > x.f3) by omega)]
          exact Ev.no h3 (Ev.no h4 (Ev.now _))
theorem ref_st (x : S25) (v : Int) : Ev (fun k => perigeeref8_stateOf.f k x.f0 x.f1 x.f2 x.f3 x.f4 x.f5 x.f6 x.f7 v) (stOf x v) := by
  unfold perigeeref8_stateOf.f stOf
  by_cases h1 : v < x.f1
  · refine Ev.yes h1 (Ev.step (fun k => by rw [perigeeref8_stateOf.j0]) ?_)
    rw [if_pos (show v < x.f1 ∨ v > x.f4 from .inl h1)]
    exact Ev.yes rfl (Ev.now _)
  · refine Ev.no h1 (Ev.step (fun k => by rw [perigeeref8_stateOf.j0]) ?_)
    by_cases h2 : v > x.f4
    · rw [if_pos (show v < x.f1 ∨ v > x.f4 from .inr h2)]
      exact Ev.yes (by simpa using h2) (Ev.now _)
    · rw [if_neg (show ¬ (v < x.f1 ∨ v > x.f4) by omega)]
      refine Ev.no (by simpa using h2) ?_
      by_cases h3 : v < x.f2
      · rw [if_pos (show v < x.f2 ∨ v > x.f3 from .inl h3)]
        exact Ev.yes h3 (Ev.now _)
      · by_cases h4 : v > x.f3
        · rw [if_pos (show v < x.f2 ∨ v > x.f3 from .inr h4)]
          exact Ev.no h3 (Ev.yes h4 (Ev.now _))
        · rw [if_neg (show ¬ (v < x.f2 ∨ v > x.f3) by omega)]
          exact Ev.no h3 (Ev.no h4 (Ev.now _))

theorem first2 (a b : Int) : Ev (fun k => kit_First.f k [a, b]) (if a = 0 then b else a) := by
  unfold kit_First.f
  have r0 : rd [a, b] 0 = a := rfl
  have r1 : rd [a, b] 1 = b := rfl
  have l2 : ((([a, b] : List Int).length : Nat) : Int) = 2 := rfl
  rw [l2]
  refine Ev.step (fun k => by rw [kit_First.l0]) ?_
  rw [r0, w64 (x := 0 + 1) (by omega) (by omega), l2]
  refine Ev.yes (by omega) (Ev.yes (by omega) (Ev.yes (by omega) ?_))
  by_cases h : a = 0
  · rw [if_pos h]
    refine Ev.yes h (Ev.step (fun k => by rw [kit_First.l0]) ?_)
    rw [show (0 : Int) + 1 = 1 from rfl, r1, w64 (x := 1 + 1) (by omega) (by omega), l2]
    refine Ev.yes (by omega) (Ev.yes (by omega) (Ev.yes (by omega) ?_))
    by_cases h2 : b = 0
    · rw [h2]
      refine Ev.yes rfl (Ev.step (fun k => by rw [kit_First.l0]) ?_)
      exact Ev.no (by omega) (Ev.now _)
    · exact Ev.no h2 (Ev.now _)
  · rw [if_neg h]
    exact Ev.no h (Ev.now _)
theorem first3 (a b c : Int) : Ev (fun k => kit_First.f k [a, b, c]) (if a = 0 then (if b = 0 then c else b) else a) := by
  unfold kit_First.f
  have r0 : rd [a, b, c] 0 = a := rfl
  have r1 : rd [a, b, c] 1 = b := rfl
  have r2 : rd [a, b, c] 2 = c := rfl
  have l3 : ((([a, b, c] : List Int).length : Nat) : Int) = 3 := rfl
  rw [l3]
  refine Ev.step (fun k => by rw [kit_First.l0]) ?_
  rw [r0, w64 (x := 0 + 1) (by omega) (by omega), l3]
  refine Ev.yes (by omega) (Ev.yes (by omega) (Ev.yes (by omega) ?_))
  by_cases h : a = 0
  · rw [if_pos h]
    refine Ev.yes h (Ev.step (fun k => by rw [kit_First.l0]) ?_)
    rw [show (0 : Int) + 1 = 1 from rfl, r1, w64 (x := 1 + 1) (by omega) (by omega), l3]
    refine Ev.yes (by omega) (Ev.yes (by omega) (Ev.yes (by omega) ?_))
    by_cases h2 : b = 0
    · rw [if_pos h2]
      refine Ev.yes h2 (Ev.step (fun k => by rw [kit_First.l0]) ?_)
      rw [show (1 : Int) + 1 = 2 from rfl, r2, w64 (x := 2 + 1) (by omega) (by omega), l3]
      refine Ev.yes (by omega) (Ev.yes (by omega) (Ev.yes (by omega) ?_))
      by_cases h3 : c = 0
      · rw [h3]
        refine Ev.yes rfl (Ev.step (fun k => by rw [kit_First.l0]) ?_)
        exact Ev.no (by omega) (Ev.now _)
      · exact Ev.no h3 (Ev.now _)
    · rw [if_neg h2]
      exact Ev.no h2 (Ev.now _)
  · rw [if_neg h]
    exact Ev.no h (Ev.now _)

/-- the answer of StateOf -/
noncomputable def stAns (x : S25) (v : Int) : Int × Int := if checkL [x] = 0 then (if In9 v then (stOf x v, 0) else (0, 1)) else (0, checkL [x])
theorem monitor_StateOf_ev (x : S25) (v : Int) (hx : OkS x.f0) : Ev (fun k => monitor_StateOf.f k x.f0 x.f1 x.f2 x.f3 x.f4 x.f5 x.f6 x.f7 v) (stAns x v) := by
  unfold monitor_StateOf.f stAns
  refine Ev.bind (monitor_limits [x] (by simpa using hx)) ?_
  rw [range_ev]
  simp only [Option.bind_some]
  refine Ev.bind (first2 _ _) ?_
  by_cases h : checkL [x] = 0
  · rw [if_pos h, if_pos h]
    by_cases hv : In9 v
    · rw [if_pos hv, if_pos (show -1000000000 ≤ v ∧ v ≤ 1000000000 from hv)]
      exact Ev.yes rfl (Ev.bind (monitor_st x v) (Ev.now _))
    · rw [if_neg hv, if_neg (show ¬ (-1000000000 ≤ v ∧ v ≤ 1000000000) from hv)]
      exact Ev.no (by omega) (Ev.now _)
  · rw [if_neg h, if_neg h]
    exact Ev.no h (Ev.now _)
theorem ref_StateOf_ev (x : S25) (v : Int) (hx : OkS x.f0) : Ev (fun k => perigeeref8_StateOf.f k x.f0 x.f1 x.f2 x.f3 x.f4 x.f5 x.f6 x.f7 v) (stAns x v) := by
  unfold perigeeref8_StateOf.f stAns
  refine Ev.bind (ref_limits [x] (by simpa using hx)) ?_
  by_cases h : checkL [x] = 0
  · rw [if_pos h, value_ev]
    refine Ev.yes h ?_
    simp only [Option.bind_some]
    by_cases hv : In9 v
    · rw [if_pos hv]
      exact Ev.yes (by simpa [In9] using hv) (Ev.bind (ref_st x v) (Ev.now _))
    · rw [if_neg hv]
      exact Ev.no (by simpa [In9] using hv) (Ev.now _)
  · rw [if_neg h]
    exact Ev.no h (Ev.now _)

theorem awake_ev : Ev (fun k => perigeelaw8_awake.f k) true := by
  have h : perigeelaw8_awake.f 40 = some true := by decide +kernel
  exact Ev.of perigeelaw8_awake.mono h

end Go.Proofs.Ytodnfnnfjnnhmaa.Pure

-- YtodnfnnfjnnhmaaStLimitsMatchSpec
set_option linter.unusedVariables false
namespace Go.Proofs.Ytodnfnnfjnnhmaa.P
open Go.RowKit Go.Proofs.Ytodnfnnfjnnhmaa.Open Go.Proofs.Ytodnfnnfjnnhmaa.P Go.Proofs.YtodnfnnfjnnhmaaW.PrintWords Go.Proofs.YtodnfnnfjnnhmaaW.PrintLast Go.Proofs.YtodnfnnfjnnhmaaW.PrintMore

/-- THE PURE STATEMENT -/
def perigeelaw8_LimitsMatchSpec.Law : Prop := ∀ (l0 : List (S25)) (l1 : List (S35)) (a2_0 : ByteArray) (a2_1 : Int) (a2_2 : Int) (a2_3 : Int) (a2_4 : Int) (a2_5 : Int) (a2_6 : Int) (a2_7 : Int) (a3 : Int), (OkL 72 ok25) l0 → (OkL 32 ok35) l1 → OkS a2_0 → OkI a2_1 → OkI a2_2 → OkI a2_3 → OkI a2_4 → OkI a2_5 → OkI a2_6 → OkI a2_7 → OkI a3 → ∃ k, perigeelaw8_LimitsMatchSpec.f k l0 l1 a2_0 a2_1 a2_2 a2_3 a2_4 a2_5 a2_6 a2_7 a3 = some true
end Go.Proofs.Ytodnfnnfjnnhmaa.P

-- YtodnfnnfjnnhmaaPureLimitsMatchSpec
set_option linter.unusedVariables false
namespace Go.Proofs.Ytodnfnnfjnnhmaa.Pure
open Go.RowKit Go.Proofs.Ytodnfnnfjnnhmaa.Open Go.Proofs.Ytodnfnnfjnnhmaa.P Go.Proofs.YtodnfnnfjnnhmaaW.PrintWords Go.Proofs.YtodnfnnfjnnhmaaW.PrintLast Go.Proofs.YtodnfnnfjnnhmaaW.PrintMore

theorem LimitsMatchSpec : perigeelaw8_LimitsMatchSpec.Law := by
  intro l0 l1 b0 b1 b2 b3 b4 b5 b6 b7 v ⟨_, _, h0⟩ ⟨_, _, h1⟩ hb _ _ _ _ _ _ _ _
  refine Ev.rounds (g := fun k => perigeelaw8_LimitsMatchSpec.f k l0 l1 b0 b1 b2 b3 b4 b5 b6 b7 v) ?_
  unfold perigeelaw8_LimitsMatchSpec.f
  have a := monitor_StateOf_ev ⟨b0, b1, b2, b3, b4, b5, b6, b7⟩ v hb
  have b := ref_StateOf_ev ⟨b0, b1, b2, b3, b4, b5, b6, b7⟩ v hb
  refine Ev.bind a (Ev.bind b (Ev.bind (monitor_limits l0 (fun z hz => (h0 z hz).1)) (Ev.bind (ref_limits l0 (fun z hz => (h0 z hz).1)) (Ev.yes rfl (Ev.bind (monitor_samples l1 (fun z hz => (h1 z hz).2.1)) (Ev.bind (ref_samples l1 (fun z hz => (h1 z hz).2.1)) (Ev.yes rfl (Ev.yes rfl (Ev.yes rfl (Ev.bind awake_ev (Ev.now _)))))))))))

end Go.Proofs.Ytodnfnnfjnnhmaa.Pure

-- YtodnfnnfjnnhmaaLawLimitsMatchSpec
namespace Go.Proofs.Ytodnfnnfjnnhmaa.limitsMatchSpec
open Go.ChangeShapes Go.WideShapes Go.ChangeAt Go.RowKit Go.Proofs.Ytodnfnnfjnnhmaa.Open Go.Proofs.Ytodnfnnfjnnhmaa.P
open Go.ChangeMaps (open_string shut_string)
set_option linter.unusedVariables false
theorem own : ownKnob Try.prog.godebug = none := by kernel_rfl
theorem laidOut : laidOutB Try.prog = true := by kernel_rfl
set_option maxRecDepth 100000 in
theorem lifted (os : Os) (started : os.Started) (H : Type) (enc : TypeId × Value → H) :
    ReturnsInHanded {} Try.checked os 3 .any (Rows.limitsMatchSpecSpec.pre6 enc Try.prog Try.f3 Rows.limitsMatchSpecRow.domain false) (Rows.limitsMatchSpecSpec.post enc Try.prog Try.f3 false true false false) := by
  refine returnsInHanded_of_change_sized (C := Try.checked) own started (by kernel_rfl) Try.func3
    (ChangeSpec.witness6 (enc := enc) (C := Try.checked) false ⟨#[], #[.slice none 0 0, .slice none 0 0, .agg #[.string ByteArray.empty, .int .i64 0, .int .i64 0, .int .i64 0, .int .i64 0, .int .i64 0, .int .i64 0, .int .i64 0], .int .i64 0], []⟩ 8 (by kernel_rfl) (by kernel_rfl) (by kernel_rfl) (by kernel_rfl)) ?_
  intro W base args ds gs before hval0 hW hcnd hsz0 _
  have hsz : (DataW.weightsEach Try.prog (Try.f3.params.toList ++ Rows.limitsMatchSpecSpec.plain.varTypes Try.prog) (ds ++ gs)).all (· ≤ reachBytes) = true := hsz0
  have hval : ∀ (j : Nat) t v, Try.f3.params[j]? = some t → args[j]? = some v → Value.okWide Try.prog W .any base t v := hval0
  have hW' := hW
  obtain ⟨p, q, hA0, hV, rfl, hfz, hnd⟩ := hW
  have hA : DataW.TrodAll enc Try.prog W 0 (fun _ => true) true Try.f3.params.toList args.toList ds p := hA0
  rw [Try.params3] at hA hval hsz
  obtain ⟨v0, vs0, d0, ds0, p0, q0, hargs, rfl, rfl, h0, r0⟩ := trodAll_cons hA
  obtain ⟨v1, vs1, d1, ds1, p1, q1, rfl, rfl, rfl, h1, r1⟩ := trodAll_cons r0
  obtain ⟨v2, vs2, d2, ds2, p2, q2, rfl, rfl, rfl, h2, r2⟩ := trodAll_cons r1
  obtain ⟨v3, vs3, d3, ds3, p3, q3, rfl, rfl, rfl, h3, r3⟩ := trodAll_cons r2
  obtain ⟨rfl, rfl, rfl⟩ := trodAll_nil r3
  obtain rfl : args = #[v0, v1, v2, v3] := by cases args; simp_all
  obtain ⟨rfl, rfl⟩ := trodVars_none hV
  have k0 := h0
  have lt0 : ∀ x ∈ p0, x.block < W.heap.size := by obtain ⟨m, hm⟩ := k0; exact DataW.trod_lt m _ _ _ hm
  obtain ⟨A0, len0, c0, rfl⟩ := okWide_slice Try.underlying22 (hval 0 22 v0 rfl rfl)
  obtain ⟨l0, rfl, hc0, hr0, y0⟩ := param_slice (d := k25) (ok := (OkL 72 ok25)) (j := 0) hsz rfl rfl h0 (opens_slice Try.underlying22 (by kernel_rfl) (by kernel_rfl) opens25)
  have k1 := h1
  have lt1 : ∀ x ∈ p1, x.block < W.heap.size := by obtain ⟨m, hm⟩ := k1; exact DataW.trod_lt m _ _ _ hm
  obtain ⟨A1, len1, c1, rfl⟩ := okWide_slice Try.underlying23 (hval 1 23 v1 rfl rfl)
  obtain ⟨l1, rfl, hc1, hr1, y1⟩ := param_slice (d := k35) (ok := (OkL 32 ok35)) (j := 1) hsz rfl rfl h1 (opens_slice Try.underlying23 (by kernel_rfl) (by kernel_rfl) opens35)
  have k2 := h2
  have lt2 : ∀ x ∈ p2, x.block < W.heap.size := by obtain ⟨m, hm⟩ := k2; exact DataW.trod_lt m _ _ _ hm
  obtain ⟨cs2, rfl, _⟩ := okWide_struct Try.underlying25 (hval 2 25 v2 rfl rfl)
  obtain ⟨x2, z2, y2⟩ := param_any (d := k25) (ok := ok25) (j := 2) hsz rfl rfl h2 opens25
  obtain rfl := agg_eq (k25_open z2)
  have k3 := h3
  have lt3 : ∀ x ∈ p3, x.block < W.heap.size := by obtain ⟨m, hm⟩ := k3; exact DataW.trod_lt m _ _ _ hm
  obtain ⟨a3, rfl⟩ := okWide_int Try.underlying3 (hval 3 3 v3 rfl rfl)
  obtain ⟨b3, e3, y3⟩ := param_any (d := (Go.Proofs.YtodnfnnfjnnhmaaW.PrintWords.Kd.int .i64)) (ok := OkI) (j := 3) hsz rfl rfl h3 (opens_i64 Try.underlying3)
  obtain rfl : a3 = b3 := by simpa [Value.cells, Go.Proofs.YtodnfnnfjnnhmaaW.PrintWords.Kd.int, Go.Proofs.YtodnfnnfjnnhmaaW.PrintWords.Kd.scalar] using e3
  clear hA0 hval0 hsz0 hsz
  obtain ⟨k, hk⟩ := Pure.LimitsMatchSpec l0 l1 x2.f0 x2.f1 x2.f2 x2.f3 x2.f4 x2.f5 x2.f6 x2.f7 a3 y0 y1 y2.1 y2.2.1 y2.2.2.1 y2.2.2.2.1 y2.2.2.2.2.1 y2.2.2.2.2.2.1 y2.2.2.2.2.2.2.1 y2.2.2.2.2.2.2.2 y3
  refine (perigeelaw8_LimitsMatchSpec.calls (r := true) (w := W) (hr0 := hr0) (hc0 := hc0) (hr1 := hr1) (hc1 := hc1) (h := hk)).mono fun e W' ⟨he, bel0⟩ => ?_
  have bel : Below W.heap.size W W' := bel0
  subst he
  exact ⟨_, rfl, _, _, _, [], _, [], hW', trodAll_mk1 (shut_bool Try.underlying4 _), (trodAll_cons_mk (Below.trod laidOut (by kernel_rfl) (of_decide_eq_true (by kernel_rfl)) k0 bel lt0) (trodAll_cons_mk (Below.trod laidOut (by kernel_rfl) (of_decide_eq_true (by kernel_rfl)) k1 bel lt1) (trodAll_cons_mk (Below.trod laidOut (by kernel_rfl) (of_decide_eq_true (by kernel_rfl)) k2 bel lt2) (trodAll_cons_mk (Below.trod laidOut (by kernel_rfl) (of_decide_eq_true (by kernel_rfl)) k3 bel lt3) trodAll_mk0)))), rfl, bel.frame _, fun h => by cases h⟩
theorem over : Rows.limitsMatchSpecRow.holds Try.pinned (OpenSpec.ofChange Rows.limitsMatchSpecSpec) :=
  OpenClaim.holds_of_wide 3 Try.f3 rfl rfl rfl rfl rfl rfl rfl ⟨rfl, rfl, rfl, rfl, rfl⟩ rfl rfl rfl rfl rfl (by kernel_rfl) Try.func3 (by kernel_rfl)
    (of_decide_eq_true (by kernel_rfl)) (by unfold Func.isWrapper; first | (rw [if_pos (by decide +kernel)]; kernel_rfl) | (rw [if_neg (by decide +kernel)]; exact ⟨rfl, rfl⟩))
    (fun os started H enc _ => lifted os started H enc)
theorem proved : Rows.LimitsMatchSpecSaid := over
#print axioms proved
end Go.Proofs.Ytodnfnnfjnnhmaa.limitsMatchSpec
namespace Go.Proofs.Ytodnfnnfjnnhmaa
/-- The row, under a short name, for the claim. -/
theorem limitsMatchSpec_holds : Rows.LimitsMatchSpecSaid := limitsMatchSpec.proved
end Go.Proofs.Ytodnfnnfjnnhmaa
