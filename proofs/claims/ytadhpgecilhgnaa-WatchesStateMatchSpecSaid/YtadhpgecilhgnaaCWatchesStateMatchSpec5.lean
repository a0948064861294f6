/- ModeAt and UnitsOn are as specified, with all errors -/
import Derived.Sort.Walk0
import Derived.Test.YtadhpgecilhgnaaCWatchesStateMatchSpec4
-- YtadhpgecilhgnaaQ46
set_option linter.unusedVariables false
set_option linter.unusedSimpArgs false
namespace Go.Proofs.Ytadhpgecilhgnaa.Pure
open Go Go.Proofs.Ytadhpgecilhgnaa.A
section
variable {w : DWatch} {at' : Int} {ev0 : S}
theorem toO_take {C : List DModeChange} {i : Nat} {c : DModeChange} (h : C[i]? = some c) (mode ev : S) : toO (C.take (i + 1)) mode ev none = if c.1 = mode ∧ c.2.1 = ev then some c.2.2 else toO (C.take i) mode ev none := by
 rw [List.take_add_one, h]
 unfold toO
 rw [List.foldl_append]
 rfl
theorem rchange_ev (ok : ModesOk w) {mode ev : S} {on : List Bool} {us : List S} {T : List DFired} {td : List S} {many idx : Int} {r : Int × DCraft × Unit} (hon : on.length ≤ 200)
 (fin : Ev (fun k => perigeeref8_craft_come.c2 k w.1 w.2.1 w.2.2.1 w.2.2.2 (toM w.2.1 mode ev) on us T at' ev0 td many idx ev mode on 0) r) :
 Ev (fun k => perigeeref8_craft_come.c1 k w.1 w.2.1 w.2.2.1 w.2.2.2 mode on us T at' ev0 td many idx ev mode 0) r := by
 have cl := ok.cl
 have h := Ev.rng (σ := S) (Ty.dflt YModeChange) w.2.1 (by omega) (g := fun k m i => perigeeref8_craft_come.c1 k w.1 w.2.1 w.2.2.1 w.2.2.2 m on us T at' ev0 td many idx ev mode i) (fun k m i => perigeeref8_craft_come.c1_eq _ _ _ _ _ _ _ _ _ _ _ _ _ _ _ _ _)
  (fun i m => m = (toO (w.2.1.take i) mode ev none).getD mode) (fun _ _ _ => r) (fun m hm => by
   rw [List.take_length] at hm
   have e : m = toM w.2.1 mode ev := hm
   rw [e]
   exact Ev.yes (by omega) fin) (fun i x xs m hi hx hd hget hw hm next => by
   simp only [Int.toNat_natCast, hget, hw]
   have hg : w.2.1[i]? = some x := by rw [List.getElem?_eq_getElem hi, ← hget, getD_nat _ _ _ hi]
   by_cases h1 : x.1 = mode
   ·refine Ev.yes (decide_eq_true h1) ?_
    by_cases h2 : x.2.1 = ev
    ·refine Ev.yes (decide_eq_true h2) (next _ ?_)
     rw [toO_take hg, if_pos ⟨h1, h2⟩]; rfl
    ·refine Ev.no (fun h => h2 (of_decide_eq_true h)) (next _ ?_)
     rw [toO_take hg, if_neg (fun h => h2 h.2)]; exact hm
   ·refine Ev.no (fun h => h1 (of_decide_eq_true h)) (next _ ?_)
    rw [toO_take hg, if_neg (fun h => h1 h.1)]; exact hm) 0 mode (by omega) rfl
 exact h
theorem comeR_ev (ok : RulesOk w) (mk : ModesOk w) {T0 : List DFired} (hT : T0.length ≤ 60000000) : ∀ (n : Nat) (mode : S) (s : OU) (told : List DFired) (us pre q : List S), 10001 ≤ told.length + n → told.length ≤ 10000 → UL us s.2 → s.1.length = nRu w → (pre ++ q).length ≤ 10 * told.length + 1 → us.length ≤ 10 * (T0.length + told.length) →
 (comeM w at' n mode s told q = none ∧ ∃ c, Ev (fun k => perigeeref8_craft_come.c0 k w.1 w.2.1 w.2.2.1 w.2.2.2 mode s.1 us (T0 ++ told) at' ev0 (pre ++ q) (told.length : Int) (pre.length : Int)) (17, (c, ()))) ∨
 ∃ mode' s' told', comeM w at' n mode s told q = some (mode', (s', told')) ∧ told'.length ≤ 10000 ∧ s'.1.length = nRu w ∧ ∃ us', UL us' s'.2 ∧ us'.length ≤ 10 * (T0.length + told'.length) ∧ Ev (fun k => perigeeref8_craft_come.c0 k w.1 w.2.1 w.2.2.1 w.2.2.2 mode s.1 us (T0 ++ told) at' ev0 (pre ++ q) (told.length : Int) (pre.length : Int)) (0, (cft w mode' s'.1 us' (T0 ++ told'), ())) := by
 have rl := ok.rl
 have hnR : nRu w = w.2.2.2.length := rfl
 intro n
 induction n with
 | zero => intro mode s told us pre q h1 h2; omega
 | succ n ih =>
  intro mode s told us pre q hn ht hu hon hq hl
  have hTl : (T0 ++ told).length = T0.length + told.length := by simp
  cases q with
  | nil => exact .inr ⟨mode, s, told, rfl, ht, hon, us, hu, hl, Ev.step (fun k => perigeeref8_craft_come.c0_eq _ _ _ _ _ _ _ _ _ _ _ _ _ _) (Ev.no (by simp) (Ev.now _))⟩
  | cons ev q =>
   have hpq : (pre ++ ev :: q).length = pre.length + q.length + 1 := by simp; omega
   have hg : (pre ++ ev :: q).getD pre.length [] = ev := by
    rw [List.getD_eq_getElem?_getD, List.getElem?_append_right (Nat.le_refl _)]; simp
   have hc : IntKind.wrap .i64 ((told.length : Int) + 1) = ((told.length + 1 : Nat) : Int) := by rw [w64 (by omega) (by omega)]; omega
   have hcm : comeM w at' (n + 1) mode s told (ev :: q) = if 10000 < (evM w at' mode s told ev q).2.1.length then none else comeM w at' n (toM w.2.1 mode ev) (evM w at' mode s told ev q).1 (evM w at' mode s told ev q).2.1 (evM w at' mode s told ev q).2.2 := rfl
   let s0 : RS := (s, (told ++ [(at', (ev, (mode, [])))], q))
   have hM : ((List.range' 0 (nRu w)).filter (frB w s.1 mode ev)).foldl (ruleM w at' ev mode) s0 = evM w at' mode s told ev q := by rw [← fireM_eq]; rfl
   have hl3 : told.length + 1 ≤ (evM w at' mode s told ev q).2.1.length := by
    have := (rules_told (w := w) (at' := at') ev mode (fireM w s.1 mode ev) s0).1
    have e : (fireM w s.1 mode ev).foldl (ruleM w at' ev mode) s0 = evM w at' mode s told ev q := rfl
    rw [e] at this
    simp only [s0, List.length_append, List.length_singleton] at this
    omega
   by_cases hten : 10000 < told.length + 1
   ·refine .inl ⟨by rw [hcm, if_pos (by omega)], _, Ev.step (fun k => perigeeref8_craft_come.c0_eq _ _ _ _ _ _ _ _ _ _ _ _ _ _) (Ev.yes (decide_eq_true (by omega)) (Ev.yes (by omega) (Ev.yes (by omega) (Ev.yes (by rw [hc]; exact decide_eq_true (by omega)) (Ev.now _)))))⟩
   have pre' : ∀ {r}, Ev (fun k => perigeeref8_craft_come.c2 k w.1 w.2.1 w.2.2.1 w.2.2.2 (toM w.2.1 mode ev) s0.1.1 us (T0 ++ s0.2.1) at' ev0 ((pre ++ [ev]) ++ s0.2.2) (s0.2.1.length : Int) (pre.length : Int) ev mode s.1 ((0 : Nat) : Int)) r →
    Ev (fun k => perigeeref8_craft_come.c0 k w.1 w.2.1 w.2.2.1 w.2.2.2 mode s.1 us (T0 ++ told) at' ev0 (pre ++ ev :: q) (told.length : Int) (pre.length : Int)) r := fun {r} fin => by
    refine Ev.step (fun k => perigeeref8_craft_come.c0_eq _ _ _ _ _ _ _ _ _ _ _ _ _ _) (Ev.yes (decide_eq_true (by omega)) (Ev.yes (by omega) (Ev.yes (by omega) (Ev.no (by rw [hc]; simp; omega) ?_))))
    rw [hc, Int.toNat_natCast, hg]
    refine rchange_ev mk (by omega) ?_
    have e1 : (s0.2.1.length : Int) = ((told.length + 1 : Nat) : Int) := by simp [s0]
    rw [e1] at fin
    simp only [s0, List.append_assoc, List.singleton_append] at fin ⊢
    exact fin
   have fe := rfire_ev (w := w) (at' := at') (ev0 := ev0) ok (mo := toM w.2.1 mode ev) (ev := ev) (mode := mode) (idx := (pre.length : Int)) (were := s.1) (T0 := T0) hon hT (nRu w) 0 s0 us (pre ++ [ev]) (Nat.zero_add _) hu hon (by simp only [s0, List.length_append, List.length_singleton]; omega) (by simp only [s0, List.length_append, List.length_singleton]; omega) (by simp only [s0, List.length_append, List.length_singleton]; omega)
   rw [hM] at fe
   rcases fe with ⟨b1, c, b2⟩ | ⟨b1, us', b2, b3, b4, b5⟩
   ·exact .inl ⟨by rw [hcm, if_pos b1], c, pre' b2⟩
   ·have hl2 : (evM w at' mode s told ev q).1.1.length = nRu w := ((rules_told (w := w) (at' := at') ev mode (fireM w s.1 mode ev) s0).2).trans hon
    have hidx : IntKind.wrap .i64 ((pre.length : Int) + 1) = ((pre ++ [ev]).length : Int) := by rw [w64 (by omega) (by omega)]; simp
    rcases ih (toM w.2.1 mode ev) (evM w at' mode s told ev q).1 (evM w at' mode s told ev q).2.1 us' (pre ++ [ev]) (evM w at' mode s told ev q).2.2 (by omega) b1 b2 hl2 (by omega) b3 with ⟨c1, c, c2⟩ | ⟨mode', s', told', c1, c2, c3, us2, c4, c5, c6⟩
    ·exact .inl ⟨by rw [hcm, if_neg (by omega)]; exact c1, c, pre' (b5 _ (by rw [hidx]; exact c2))⟩
    ·exact .inr ⟨mode', s', told', by rw [hcm, if_neg (by omega)]; exact c1, c2, c3, us2, c4, c5, pre' (b5 _ (by rw [hidx]; exact c6))⟩
theorem rcome_ev (ok : RulesOk w) (mk : ModesOk w) {T0 : List DFired} (hT : T0.length ≤ 60000000) (mode : S) (s : OU) (us : List S) (e : DEvent) (hu : UL us s.2) (hon : s.1.length = nRu w) (hl : us.length ≤ 10 * T0.length) :
 (comeM w e.1 10001 mode s [] [e.2] = none ∧ ∃ c, Ev (fun k => perigeeref8_craft_come.f k (cft w mode s.1 us T0) e) (17, (c, ()))) ∨
 ∃ mode' s' told', comeM w e.1 10001 mode s [] [e.2] = some (mode', (s', told')) ∧ told'.length ≤ 10000 ∧ s'.1.length = nRu w ∧ ∃ us', UL us' s'.2 ∧ us'.length ≤ 10 * (T0 ++ told').length ∧ Ev (fun k => perigeeref8_craft_come.f k (cft w mode s.1 us T0) e) (0, (cft w mode' s'.1 us' (T0 ++ told'), ())) := by
 have h := comeR_ev (at' := e.1) (ev0 := e.2) ok mk hT 10001 mode s [] us [] [e.2] (by simp) (by simp) hu hon (by simp) (by simpa using hl)
 simp only [List.append_nil, List.nil_append, List.length_nil] at h
 rcases h with ⟨c1, c, c2⟩ | ⟨mode', s', told', c1, c2, c3, us', c4, c5, c6⟩
 ·exact .inl ⟨c1, c, Ev.eq (fun k => perigeeref8_craft_come.f_eq _ _ _) c2⟩
 ·exact .inr ⟨mode', s', told', c1, c2, c3, us', c4, by rw [List.length_append]; exact c5, Ev.eq (fun k => perigeeref8_craft_come.f_eq _ _ _) c6⟩
end
end Go.Proofs.Ytadhpgecilhgnaa.Pure

-- YtadhpgecilhgnaaQ47
set_option linter.unusedVariables false
set_option linter.unusedSimpArgs false
namespace Go.Proofs.Ytadhpgecilhgnaa.Pure
open Go Go.Proofs.Ytadhpgecilhgnaa.A
def playM (w : DWatch) : List DEvent → S → OU → List DFired → Option (S × OU × List DFired)
 | [], mode, s, T => some (mode, (s, T))
 | e :: l, mode, s, T => match comeM w e.1 10001 mode s [] [e.2] with
  | none => none
  | some (mode', (s', told)) => playM w l mode' s' (T ++ told)
def ou0 (w : DWatch) : OU := (List.replicate (nRu w) true, fun _ => false)
def resP : Option (S × OU × List DFired) → List DFired × Int × Unit
 | none => ([], (17, ()))
 | some (_, (_, T)) => (T, (0, ()))
def EvG (l : List DEvent) (i : Nat) : Prop := (0 ≤ (l.getD i (Ty.dflt YEvent)).1 ∧ (l.getD i (Ty.dflt YEvent)).1 ≤ 1000000000000) ∧ isNm (l.getD i (Ty.dflt YEvent)).2 = true ∧ (i ≠ 0 → ¬ (l.getD i (Ty.dflt YEvent)).1 < (l.getD (i - 1) (Ty.dflt YEvent)).1)
def EvOk (l : List DEvent) : Prop := l.length ≤ 5000 ∧ ∀ i, i < l.length → EvG l i
theorem evg_step {l : List DEvent} {i : Nat} (hi : i < l.length) : (∀ j, i ≤ j → j < l.length → EvG l j) ↔ EvG l i ∧ ∀ j, i + 1 ≤ j → j < l.length → EvG l j :=
 ⟨fun h => ⟨h i (Nat.le_refl _) hi, fun j h1 h2 => h j (by omega) h2⟩, fun h j h1 h2 => by
  by_cases e : j = i
  ·exact e ▸ h.1
  ·exact h.2 j (by omega) h2⟩
theorem events_twin (l : List DEvent) (h1 : okT (.sl YEvent) l) : ∃ c : Int, Ev (fun k => monitor_CheckEvents.f k l) (c, ()) ∧ Ev (fun k => perigeeref8_CheckEvents.f k l) (c, ()) ∧ (c = 0 ↔ EvOk l) := by
 by_cases hl : 5000 < l.length
 ·exact ⟨2, Ev.eq (fun k => monitor_CheckEvents.f_eq _ _) (Ev.yes (decide_eq_true (by omega)) (Ev.now _)), Ev.eq (fun k => perigeeref8_CheckEvents.f_eq _ _) (Ev.yes (decide_eq_true (by omega)) (Ev.now _)), ⟨fun h => absurd h (by decide), fun h => absurd h.1 (by omega)⟩⟩
 have loop : ∀ (d i : Nat), i + d = l.length → ∃ c : Int, Ev (fun k => monitor_CheckEvents.c0 k l l (l.length : Int) (i : Int)) (c, ()) ∧ Ev (fun k => perigeeref8_CheckEvents.c0 k l (i : Int)) (c, ()) ∧ (c = 0 ↔ ∀ j, i ≤ j → j < l.length → EvG l j) := by
  intro d
  induction d with
  | zero =>
   intro i hi
   exact ⟨0, Ev.step (fun k => monitor_CheckEvents.c0_eq _ _ _ _ _) (Ev.no (by simp; omega) (Ev.now _)), Ev.step (fun k => perigeeref8_CheckEvents.c0_eq _ _ _) (Ev.no (by simp; omega) (Ev.now _)), fun _ j _ _ => by omega, fun _ => rfl⟩
  | succ d ih =>
   intro i hi
   have hil : i < l.length := by omega
   have hw : IntKind.wrap .i64 ((i : Int) + 1) = ((i + 1 : Nat) : Int) := by rw [w64 (by omega) (by omega)]; omega
   have hx := h1.2.2 _ (getD_mem (z := Ty.dflt YEvent) hil)
   have hG : EvG l i ↔ (0 ≤ (l.getD i (Ty.dflt YEvent)).1 ∧ (l.getD i (Ty.dflt YEvent)).1 ≤ 1000000000000) ∧ isNm (l.getD i (Ty.dflt YEvent)).2 = true ∧ (i ≠ 0 → ¬ (l.getD i (Ty.dflt YEvent)).1 < (l.getD (i - 1) (Ty.dflt YEvent)).1) := Iff.rfl
   rw [evg_step hil]
   generalize hcc : l.getD i (Ty.dflt YEvent) = x at hx hG
   obtain ⟨n1, _⟩ := name_ev x.2 hx.2
   have n2 := rname_ev x.2 hx.2
   by_cases a1 : (0 : Int) ≤ x.1 ∧ x.1 ≤ 1000000000000
   case neg =>
    refine ⟨1, Ev.step (fun k => monitor_CheckEvents.c0_eq _ _ _ _ _) (Ev.yes (decide_eq_true (by omega)) (Ev.yes (by omega) ?_)), Ev.step (fun k => perigeeref8_CheckEvents.c0_eq _ _ _) (Ev.yes (decide_eq_true (by omega)) (Ev.yes (by omega) ?_)), ⟨fun h => absurd h (by decide), fun h => absurd (hG.1 h.1).1 a1⟩⟩
    ·simp only [Int.toNat_natCast, hcc, in_ev, Option.bind_some]
     exact Ev.yes (by simp only [decide_eq_false a1]; rfl) (Ev.now _)
    ·simp only [Int.toNat_natCast, hcc, rwithin, Option.bind_some]
     exact Ev.yes (by simp only [decide_eq_false a1]; rfl) (Ev.now _)
   by_cases a2 : isNm x.2 = true
   case neg =>
    refine ⟨5, Ev.step (fun k => monitor_CheckEvents.c0_eq _ _ _ _ _) (Ev.yes (decide_eq_true (by omega)) (Ev.yes (by omega) ?_)), Ev.step (fun k => perigeeref8_CheckEvents.c0_eq _ _ _) (Ev.yes (decide_eq_true (by omega)) (Ev.yes (by omega) ?_)), ⟨fun h => absurd h (by decide), fun h => absurd (hG.1 h.1).2.1 a2⟩⟩
    ·simp only [Int.toNat_natCast, hcc, in_ev, Option.bind_some]
     exact Ev.no (by simp only [decide_eq_true a1]; simp) (Ev.bind n1 (Ev.yes (by simpa using a2) (Ev.now _)))
    ·simp only [Int.toNat_natCast, hcc, rwithin, Option.bind_some]
     exact Ev.no (by simp only [decide_eq_true a1]; simp) (Ev.yes (by omega) (Ev.bind n2 (Ev.yes (by simpa using a2) (Ev.now _))))
   obtain ⟨c, c1, c2, c3⟩ := ih (i + 1) (by omega)
   by_cases i0 : i = 0
   ·refine ⟨c, Ev.step (fun k => monitor_CheckEvents.c0_eq _ _ _ _ _) (Ev.yes (decide_eq_true (by omega)) (Ev.yes (by omega) ?_)), Ev.step (fun k => perigeeref8_CheckEvents.c0_eq _ _ _) (Ev.yes (decide_eq_true (by omega)) (Ev.yes (by omega) ?_)), c3.trans ⟨fun h => ⟨hG.2 ⟨a1, a2, fun e => absurd i0 e⟩, h⟩, fun h => h.2⟩⟩
    ·simp only [Int.toNat_natCast, hcc, in_ev, Option.bind_some, hw]
     exact Ev.no (by simp only [decide_eq_true a1]; simp) (Ev.bind n1 (Ev.no (by simp [a2]) (Ev.no (by simp [i0]) c1)))
    ·simp only [Int.toNat_natCast, hcc, rwithin, Option.bind_some, hw]
     exact Ev.no (by simp only [decide_eq_true a1]; simp) (Ev.yes (by omega) (Ev.bind n2 (Ev.no (by simp [a2]) (Ev.no (by simp [i0]) c2))))
   have hp := wpred i0 (by omega)
   by_cases l1 : x.1 < (l.getD (i - 1) (Ty.dflt YEvent)).1
   ·refine ⟨8, Ev.step (fun k => monitor_CheckEvents.c0_eq _ _ _ _ _) (Ev.yes (decide_eq_true (by omega)) (Ev.yes (by omega) ?_)), Ev.step (fun k => perigeeref8_CheckEvents.c0_eq _ _ _) (Ev.yes (decide_eq_true (by omega)) (Ev.yes (by omega) ?_)), ⟨fun h => absurd h (by decide), fun h => absurd l1 ((hG.1 h.1).2.2 i0)⟩⟩
    ·simp only [Int.toNat_natCast, hcc, in_ev, Option.bind_some, hw, hp]
     exact Ev.no (by simp only [decide_eq_true a1]; simp) (Ev.bind n1 (Ev.no (by simp [a2]) (Ev.yes (decide_eq_true (by omega)) (Ev.yes (by omega) (Ev.yes (decide_eq_true l1) (Ev.now _))))))
    ·simp only [Int.toNat_natCast, hcc, rwithin, Option.bind_some, hw, hp]
     exact Ev.no (by simp only [decide_eq_true a1]; simp) (Ev.yes (by omega) (Ev.bind n2 (Ev.no (by simp [a2]) (Ev.yes (decide_eq_true (by omega)) (Ev.yes (by omega) (Ev.yes (by omega) (Ev.yes (decide_eq_true l1) (Ev.now _))))))))
   ·refine ⟨c, Ev.step (fun k => monitor_CheckEvents.c0_eq _ _ _ _ _) (Ev.yes (decide_eq_true (by omega)) (Ev.yes (by omega) ?_)), Ev.step (fun k => perigeeref8_CheckEvents.c0_eq _ _ _) (Ev.yes (decide_eq_true (by omega)) (Ev.yes (by omega) ?_)), c3.trans ⟨fun h => ⟨hG.2 ⟨a1, a2, fun _ => l1⟩, h⟩, fun h => h.2⟩⟩
    ·simp only [Int.toNat_natCast, hcc, in_ev, Option.bind_some, hw, hp]
     exact Ev.no (by simp only [decide_eq_true a1]; simp) (Ev.bind n1 (Ev.no (by simp [a2]) (Ev.yes (decide_eq_true (by omega)) (Ev.yes (by omega) (Ev.no (fun h => l1 (of_decide_eq_true h)) c1)))))
    ·simp only [Int.toNat_natCast, hcc, rwithin, Option.bind_some, hw, hp]
     exact Ev.no (by simp only [decide_eq_true a1]; simp) (Ev.yes (by omega) (Ev.bind n2 (Ev.no (by simp [a2]) (Ev.yes (decide_eq_true (by omega)) (Ev.yes (by omega) (Ev.yes (by omega) (Ev.no (fun h => l1 (of_decide_eq_true h)) c2)))))))
 obtain ⟨c, c1, c2, c3⟩ := loop l.length 0 (by omega)
 exact ⟨c, Ev.eq (fun k => monitor_CheckEvents.f_eq _ _) (Ev.no (fun h => hl (by have := of_decide_eq_true h; omega)) c1), Ev.eq (fun k => perigeeref8_CheckEvents.f_eq _ _) (Ev.no (fun h => hl (by have := of_decide_eq_true h; omega)) c2), c3.trans ⟨fun h => ⟨by omega, fun i hi => h i (by omega) hi⟩, fun h i _ hi => h.2 i hi⟩⟩
section
variable {w : DWatch} {to : List ((S × S) × S)} {ru : List (S × List Int)}
theorem pplay_loop (ok : RulesOk w) (hto : PTo w.2.1 to) (hru : PRu w (nRu w) ru) (l : List DEvent) (hl : l.length ≤ 5000) : ∀ (d i : Nat) (mode : S) (s : OU) (um : List (S × Bool)) (T : List DFired), i + d = l.length → UM um s.2 → s.1.length = nRu w → T.length ≤ 10000 * i →
 Ev (fun k => monitor_Play.c0 k mode to ru w.1 w.2.1 w.2.2.1 w.2.2.2 s.1 um T l (l.length : Int) (i : Int)) (resP (playM w (l.drop i) mode s T)) := by
 intro d
 induction d with
 | zero =>
  intro i mode s um T hi hum hon hT
  rw [List.drop_of_length_le (by omega)]
  exact Ev.step (fun k => monitor_Play.c0_eq _ _ _ _ _ _ _ _ _ _ _ _ _ _) (Ev.no (by simp; omega) (Ev.now _))
 | succ d ih =>
  intro i mode s um T hi hum hon hT
  have hil : i < l.length := by omega
  have hw : IntKind.wrap .i64 ((i : Int) + 1) = ((i + 1 : Nat) : Int) := by rw [w64 (by omega) (by omega)]; omega
  have hg : l.getD i (Ty.dflt YEvent) = l[i] := getD_nat _ _ _ hil
  rw [List.drop_eq_getElem_cons hil]
  generalize l[i] = e at hg
  refine Ev.step (fun k => monitor_Play.c0_eq _ _ _ _ _ _ _ _ _ _ _ _ _ _) (Ev.yes (decide_eq_true (by omega)) (Ev.yes (by omega) ?_))
  simp only [Int.toNat_natCast, hg, hw]
  rcases pcome_ev ok hto hru mode s um e hum hon with ⟨c1, p, c2⟩ | ⟨mode', s', told', c1, c2, c3, um', c4, c5⟩
  ·have : playM w (e :: l.drop (i + 1)) mode s T = none := by simp only [playM, c1]
   rw [this]
   exact Ev.bind c2 (Ev.yes rfl (Ev.now _))
  ·have : playM w (e :: l.drop (i + 1)) mode s T = playM w (l.drop (i + 1)) mode' s' (T ++ told') := by simp only [playM, c1]
   rw [this]
   exact Ev.bind c5 (Ev.no (by simp) (Ev.yes (by simp only; omega) (ih (i + 1) mode' s' um' (T ++ told') (by omega) c4 c3 (by rw [List.length_append]; omega))))
theorem rplay_loop (ok : RulesOk w) (mk : ModesOk w) (l : List DEvent) (hl : l.length ≤ 5000) : ∀ (d i : Nat) (mode : S) (s : OU) (us : List S) (T : List DFired), i + d = l.length → UL us s.2 → s.1.length = nRu w → T.length ≤ 10000 * i → us.length ≤ 10 * T.length →
 Ev (fun k => perigeeref8_Play.c0 k l w.1 w.2.1 w.2.2.1 w.2.2.2 mode s.1 us T (i : Int)) (resP (playM w (l.drop i) mode s T)) := by
 intro d
 induction d with
 | zero =>
  intro i mode s us T hi hu hon hT hU
  rw [List.drop_of_length_le (by omega)]
  exact Ev.step (fun k => perigeeref8_Play.c0_eq _ _ _ _ _ _ _ _ _ _ _) (Ev.no (by simp; omega) (Ev.now _))
 | succ d ih =>
  intro i mode s us T hi hu hon hT hU
  have hil : i < l.length := by omega
  have hw : IntKind.wrap .i64 ((i : Int) + 1) = ((i + 1 : Nat) : Int) := by rw [w64 (by omega) (by omega)]; omega
  have hg : l.getD i (Ty.dflt YEvent) = l[i] := getD_nat _ _ _ hil
  rw [List.drop_eq_getElem_cons hil]
  generalize l[i] = e at hg
  refine Ev.step (fun k => perigeeref8_Play.c0_eq _ _ _ _ _ _ _ _ _ _ _) (Ev.yes (decide_eq_true (by omega)) (Ev.yes (by omega) ?_))
  simp only [Int.toNat_natCast, hg, hw]
  rcases rcome_ev ok mk (by omega) mode s us e hu hon hU with ⟨c1, c, c2⟩ | ⟨mode', s', told', c1, c2, c3, us', c4, c5, c6⟩
  ·have : playM w (e :: l.drop (i + 1)) mode s T = none := by simp only [playM, c1]
   rw [this]
   exact Ev.bind c2 (Ev.yes rfl (Ev.now _))
  ·have : playM w (e :: l.drop (i + 1)) mode s T = playM w (l.drop (i + 1)) mode' s' (T ++ told') := by simp only [playM, c1]
   rw [this]
   exact Ev.bind c6 (Ev.no (by simp) (ih (i + 1) mode' s' us' (T ++ told') (by omega) c4 c3 (by rw [List.length_append]; omega) c5))
theorem um0 : UM [] (fun _ => false) := ⟨fun u => rfl, by simp⟩
theorem ul0 : UL [] (fun _ => false) := ⟨List.Pairwise.nil, fun u => by simp⟩
theorem pplay_ev (l : List DEvent) {c e : Int} (h1 : Ev (fun k => monitor_CheckWatch.f k w) (c, ())) (h3 : Ev (fun k => monitor_CheckEvents.f k l) (e, ())) (ok : c = 0 → RulesOk w ∧ ModesOk w) (hl : e = 0 → EvOk l) :
 Ev (fun k => monitor_Play.f k w l) (if firstN [c, e] = 0 then resP (playM w l w.2.2.1 (ou0 w) []) else ([], (firstN [c, e], ()))) := by
 refine Ev.eq (fun k => monitor_Play.f_eq _ _ _) (Ev.bind h1 (Ev.bind h3 (Ev.bind (first_ev [c, e] (by simp)) ?_)))
 by_cases h0 : firstN [c, e] = 0
 ·rw [if_pos h0]
  have hz := firstN_zero.1 h0
  have hc : c = 0 := hz c (by simp)
  have he : e = 0 := hz e (by simp)
  obtain ⟨rk, mk⟩ := ok hc
  obtain ⟨to, ru, n1, n2, n3⟩ := newPlayer_ev w mk.cl rk.rl
  refine Ev.no (by simp [h0]) (Ev.bind n3 (Ev.yes rfl ?_))
  exact pplay_loop rk n1 n2 l (hl he).1 l.length 0 w.2.2.1 (ou0 w) [] [] (by omega) um0 (by simp [ou0]) (by simp)
 ·rw [if_neg h0]
  exact Ev.yes (by simpa using h0) (Ev.now _)
theorem rplay_ev (l : List DEvent) {c e : Int} (h1 : Ev (fun k => perigeeref8_CheckWatch.f k w) (c, ())) (h3 : Ev (fun k => perigeeref8_CheckEvents.f k l) (e, ())) (ok : c = 0 → RulesOk w ∧ ModesOk w) (hl : e = 0 → EvOk l) :
 Ev (fun k => perigeeref8_Play.f k w l) (if firstN [c, e] = 0 then resP (playM w l w.2.2.1 (ou0 w) []) else ([], (firstN [c, e], ()))) := by
 refine Ev.eq (fun k => perigeeref8_Play.f_eq _ _ _) (Ev.bind h1 ?_)
 by_cases hc : c = 0
 case neg =>
  have : firstN [c, e] = c := by simp [firstN, hc]
  rw [this, if_neg hc]
  exact Ev.yes (by simpa using hc) (Ev.now _)
 refine Ev.no (by simp [hc]) (Ev.bind h3 ?_)
 by_cases he : e = 0
 case neg =>
  have : firstN [c, e] = e := by simp [firstN, hc, he]
  rw [this, if_neg he]
  exact Ev.yes (by simpa using he) (Ev.now _)
 have : firstN [c, e] = 0 := by simp [firstN, hc, he]
 rw [if_pos this]
 obtain ⟨rk, mk⟩ := ok hc
 refine Ev.no (by simp [he]) (Ev.bind (newCraft_ev w rk.rl) (Ev.yes rfl ?_))
 exact rplay_loop rk mk l (hl he).1 l.length 0 w.2.2.1 (ou0 w) [] [] (by omega) ul0 (by simp [ou0]) (by simp) (by simp)
end
theorem comeM_len {w : DWatch} {at' : Int} : ∀ (n : Nat) (mode : S) (s : OU) (told : List DFired) (q : List S), told.length ≤ 10000 → ∀ r, comeM w at' n mode s told q = some r → r.2.2.length ≤ 10000
 | _, mode, s, told, [], h, r, e => by
  have : some (mode, (s, told)) = some r := by rw [← e]; unfold comeM; rfl
  cases this; exact h
 | 0, _, _, _, _ :: _, _, r, e => by cases e
 | n + 1, mode, s, told, ev :: q, h, r, e => by
  rw [comeM] at e
  split at e
  ·cases e
  ·next hb => exact comeM_len n _ _ _ _ (Nat.le_of_not_lt hb) r e
theorem playM_len {w : DWatch} : ∀ (l : List DEvent) (mode : S) (s : OU) (T : List DFired), ∀ r, playM w l mode s T = some r → r.2.2.length ≤ T.length + 10000 * l.length
 | [], mode, s, T, r, h => by cases h; simp
 | e :: l, mode, s, T, r, h => by
  simp only [playM] at h
  cases hc : comeM w e.1 10001 mode s [] [e.2] with
  | none => rw [hc] at h; cases h
  | some q =>
   obtain ⟨mode', s', told⟩ := q
   rw [hc] at h
   have h1 : told.length ≤ 10000 := comeM_len 10001 mode s [] [e.2] (by simp) _ hc
   have h2 := playM_len l mode' s' (T ++ told) r h
   rw [List.length_append] at h2
   rw [List.length_cons]
   omega
end Go.Proofs.Ytadhpgecilhgnaa.Pure

-- YtadhpgecilhgnaaQ48
set_option linter.unusedVariables false
set_option linter.unusedSimpArgs false
namespace Go.Proofs.Ytadhpgecilhgnaa.Pure
open Go Go.Proofs.Ytadhpgecilhgnaa.A
theorem plays (w : DWatch) (l : List DEvent) (h0 : okT YWatch w) (h1 : okT (.sl YEvent) l) : ∃ (c e : Int) (r : List DFired × Int × Unit), Ev (fun k => monitor_CheckWatch.f k w) (c, ()) ∧ Ev (fun k => perigeeref8_CheckWatch.f k w) (c, ()) ∧ Ev (fun k => monitor_CheckEvents.f k l) (e, ()) ∧ Ev (fun k => perigeeref8_CheckEvents.f k l) (e, ()) ∧
 (c = 0 → RulesOk w ∧ ModesOk w) ∧ (e = 0 ↔ EvOk l) ∧ r = (if firstN [c, e] = 0 then resP (playM w l w.2.2.1 (ou0 w) []) else ([], (firstN [c, e], ()))) ∧ r.1.length ≤ 50000000 ∧ Ev (fun k => monitor_Play.f k w l) r ∧ Ev (fun k => perigeeref8_Play.f k w l) r := by
 obtain ⟨c, q1, q2⟩ := watch_twin w h0
 have ok : c = 0 → RulesOk w ∧ ModesOk w := fun hc => by
  obtain ⟨q, k1, k2⟩ := watch_ev w h0
  have e := k1.unique q1
  exact ⟨watch_rules w h0 q1 hc, k2 (by rw [e]; exact hc)⟩
 obtain ⟨e, e1, e2, e3⟩ := events_twin l h1
 refine ⟨c, e, _, q1, q2, e1, e2, ok, e3, rfl, ?_, pplay_ev l q1 e1 ok e3.1, rplay_ev l q2 e2 ok e3.1⟩
 by_cases h : firstN [c, e] = 0
 ·rw [if_pos h]
  have he : e = 0 := firstN_zero.1 h e (by simp)
  have hl := (e3.1 he).1
  cases hp : playM w l w.2.2.1 (ou0 w) [] with
  | none => exact Nat.zero_le _
  | some r =>
   have := playM_len l _ _ _ r hp
   show r.2.2.length ≤ _
   simp only [List.length_nil] at this
   omega
 ·rw [if_neg h]
  exact Nat.zero_le _
end Go.Proofs.Ytadhpgecilhgnaa.Pure

-- YtadhpgecilhgnaaQ49
set_option linter.unusedVariables false
set_option linter.unusedSimpArgs false
namespace Go.Proofs.Ytadhpgecilhgnaa.Pure
open Go Go.Proofs.Ytadhpgecilhgnaa.A
def preE (at' : Int) (l : List DEvent) : List DEvent := l.takeWhile fun e => decide (e.1 ≤ at')
theorem le_of_lt1 {a b : S} (h : lt1 a b) : a ≤ b := by
 have h : Op.bytesLess a b = true := h
 rw [Go.Proofs.bytesLess_eq] at h
 exact List.le_of_lt (of_decide_eq_true h)
theorem sortS_of {P us : List S} (hd : P.Nodup) (hs : us.Pairwise lt1) (h : ∀ x, x ∈ P ↔ x ∈ us) : sortS P = us := by
 rw [sortS_perm ((List.perm_ext_iff_of_nodup hd (sorted_nodup hs)).2 h)]
 exact List.mergeSort_of_pairwise (hs.imp fun h => decide_eq_true (le_of_lt1 h))
def onK (m : List (S × Bool)) : List S := (m.filter (·.2)).map (·.1)
theorem units_ev {P : List S} (hP : P.length ≤ 1000000000) {r : List S × Int × Unit} (hr : r = (sortS P, (0, ()))) :
 ∀ (n : Nat) (rest : List (S × Bool)) (acc : List S) (o : Option (S × Bool)), rest.length = n → (acc ++ onK rest).Perm P → Ev (fun k => monitor_UnitsOn.c0 k acc o rest) r
 | 0, rest, acc, o, hl, hp => by
  have := List.eq_nil_of_length_eq_zero hl
  subst this
  refine Ev.step (fun k => monitor_UnitsOn.c0_eq _ _ _ _) (Ev.yes rfl ?_)
  rw [sortS_perm (show acc.Perm P by simpa [onK] using hp), ← hr]
  exact Ev.now _
 | n + 1, rest, acc, o, hl, hp => by
  refine Ev.step (fun k => monitor_UnitsOn.c0_eq _ _ _ _) (Ev.no (by omega) (Ev.agreeL (fun e => by rw [e] at hl; cases hl) fun i p hi => ?_))
  have hlen := hp.length_eq
  simp only [List.length_append] at hlen
  have hil := (List.getElem?_eq_some_iff.1 hi).1
  have hper : rest.Perm (p :: rest.eraseIdx i) := by
   have := (List.getElem?_eq_some_iff.1 hi).2
   have hd2 : rest = rest.take i ++ p :: rest.drop (i + 1) := by
    rw [← this, ← List.drop_eq_getElem_cons hil, List.take_append_drop]
   rw [List.eraseIdx_eq_take_drop_succ]
   conv => lhs; rw [hd2]
   exact List.perm_middle
  have hk : (onK rest).Perm (onK (p :: rest.eraseIdx i)) := (hper.filter _).map _
  have hl' : (rest.eraseIdx i).length = n := by rw [List.length_eraseIdx, if_pos hil]; omega
  by_cases hb : p.2 = true
  ·have e : onK (p :: rest.eraseIdx i) = p.1 :: onK (rest.eraseIdx i) := by simp [onK, hb]
   rw [e] at hk
   refine Ev.yes hb (Ev.yes (by omega) (units_ev hP hr n _ _ _ hl' ?_))
   rw [List.append_assoc]
   exact (List.Perm.append_left acc hk.symm).trans hp
  ·have e : onK (p :: rest.eraseIdx i) = onK (rest.eraseIdx i) := by simp [onK, hb]
   rw [e] at hk
   exact Ev.no hb (units_ev hP hr n _ _ _ hl' ((List.Perm.append_left acc hk.symm).trans hp))
theorem onK_nodup {m : List (S × Bool)} (h : (m.map (·.1)).Nodup) : (onK m).Nodup := h.sublist (List.filter_sublist.map _)
theorem mem_onK {m : List (S × Bool)} (h : (m.map (·.1)).Nodup) (u : S) : u ∈ onK m ↔ (lk m u).getD false = true := by
 unfold onK
 induction m with
 | nil => simp [lk]
 | cons p m ih =>
  rw [List.map_cons, List.nodup_cons] at h
  have ih := ih h.2
  rw [lk]
  by_cases e : p.1 = u
  ·rw [if_pos e]
   have hn : u ∉ (m.filter (·.2)).map (·.1) := fun hm => h.1 (by rw [e]; exact (List.filter_sublist.map _).subset hm)
   by_cases hb : p.2 = true
   ·rw [List.filter_cons_of_pos (by exact hb)]; simp [e, hb]
   ·rw [List.filter_cons_of_neg (by exact hb)]; simp only [hn, false_iff]; simpa using hb
  ·rw [if_neg e, ← ih]
   by_cases hb : p.2 = true
   ·rw [List.filter_cons_of_pos (by exact hb), List.map_cons, List.mem_cons]
    exact ⟨fun h => h.resolve_left (fun h => e h.symm), fun h => .inr h⟩
   ·rw [List.filter_cons_of_neg (by exact hb)]
theorem unitsOn_ev {um : List (S × Bool)} {us : List S} {U : S → Bool} (h1 : UM um U) (h2 : UL us U) (hl : us.length ≤ 1000000000) : Ev (fun k => monitor_UnitsOn.c0 k [] none um) (us, (0, ())) := by
 have e : ∀ x, x ∈ onK um ↔ x ∈ us := fun x => by rw [mem_onK h1.2, h1.1, h2.2]
 have hd := onK_nodup h1.2
 have hlen : (onK um).length ≤ us.length := nodup_len hd fun x hx => (e x).1 hx
 exact units_ev (P := onK um) (by omega) (by rw [sortS_of hd h2.1 e]) um.length um [] none rfl (by simp)
section
variable {w : DWatch} {to : List ((S × S) × S)} {ru : List (S × List Int)}
theorem pupto_loop (ok : RulesOk w) (hto : PTo w.2.1 to) (hru : PRu w (nRu w) ru) (at' : Int) (l : List DEvent) (hl : l.length ≤ 5000) : ∀ (d i : Nat) (mode : S) (s : OU) (um : List (S × Bool)) (T : List DFired), i + d = l.length → UM um s.2 → s.1.length = nRu w →
 (playM w (preE at' (l.drop i)) mode s T = none ∧ Ev (fun k => monitor_upTo.c0 k at' mode to ru w.1 w.2.1 w.2.2.1 w.2.2.2 s.1 um l (l.length : Int) (i : Int)) (none, (17, ()))) ∨
 ∃ mode' s' T' um', playM w (preE at' (l.drop i)) mode s T = some (mode', (s', T')) ∧ UM um' s'.2 ∧ Ev (fun k => monitor_upTo.c0 k at' mode to ru w.1 w.2.1 w.2.2.1 w.2.2.2 s.1 um l (l.length : Int) (i : Int)) (some (plr w mode' to ru s'.1 um'), (0, ())) := by
 intro d
 induction d with
 | zero =>
  intro i mode s um T hi hum hon
  rw [List.drop_of_length_le (by omega)]
  exact .inr ⟨mode, s, T, um, rfl, hum, Ev.step (fun k => monitor_upTo.c0_eq _ _ _ _ _ _ _ _ _ _ _ _ _ _) (Ev.no (by simp; omega) (Ev.now _))⟩
 | succ d ih =>
  intro i mode s um T hi hum hon
  have hil : i < l.length := by omega
  have hw : IntKind.wrap .i64 ((i : Int) + 1) = ((i + 1 : Nat) : Int) := by rw [w64 (by omega) (by omega)]; omega
  have hg : l.getD i (Ty.dflt YEvent) = l[i] := getD_nat _ _ _ hil
  rw [List.drop_eq_getElem_cons hil]
  generalize l[i] = e at hg
  have start : ∀ {r}, Ev (fun k => if decide (at' < e.1) = true then some (some (plr w mode to ru s.1 um), (0, ())) else (monitor_player_come.f k (plr w mode to ru s.1 um) e).bind fun r6 => if (!r6.2.1) = true then some (none, (17, ())) else monitor_upTo.c0 k at' r6.2.2.1.1 r6.2.2.1.2.1 r6.2.2.1.2.2.1 r6.2.2.1.2.2.2.1.1 r6.2.2.1.2.2.2.1.2.1 r6.2.2.1.2.2.2.1.2.2.1 r6.2.2.1.2.2.2.1.2.2.2 r6.2.2.1.2.2.2.2.1 r6.2.2.1.2.2.2.2.2 l (l.length : Int) ((i + 1 : Nat) : Int)) r →
   Ev (fun k => monitor_upTo.c0 k at' mode to ru w.1 w.2.1 w.2.2.1 w.2.2.2 s.1 um l (l.length : Int) (i : Int)) r := fun {r} h => by
   refine Ev.step (fun k => monitor_upTo.c0_eq _ _ _ _ _ _ _ _ _ _ _ _ _ _) (Ev.yes (decide_eq_true (by omega)) (Ev.yes (by omega) ?_))
   simp only [Int.toNat_natCast, hg, hw]
   exact h
  by_cases ha : at' < e.1
  ·have e1 : preE at' (e :: l.drop (i + 1)) = [] := by unfold preE; rw [List.takeWhile_cons, if_neg (by simpa using ha)]
   rw [e1]
   exact .inr ⟨mode, s, T, um, rfl, hum, start (Ev.yes (decide_eq_true ha) (Ev.now _))⟩
  have e1 : preE at' (e :: l.drop (i + 1)) = e :: preE at' (l.drop (i + 1)) := by unfold preE; rw [List.takeWhile_cons, if_pos (decide_eq_true (by omega))]
  rw [e1]
  rcases pcome_ev ok hto hru mode s um e hum hon with ⟨c1, p, c2⟩ | ⟨mode', s', told', c1, c2, c3, um', c4, c5⟩
  ·exact .inl ⟨by simp only [playM, c1], start (Ev.no (fun h => ha (of_decide_eq_true h)) (Ev.bind c2 (Ev.yes rfl (Ev.now _))))⟩
  ·have e2 : playM w (e :: preE at' (l.drop (i + 1))) mode s T = playM w (preE at' (l.drop (i + 1))) mode' s' (T ++ told') := by simp only [playM, c1]
   rw [e2]
   rcases ih (i + 1) mode' s' um' (T ++ told') (by omega) c4 c3 with ⟨k1, k2⟩ | ⟨a, b, t, um2, k1, k2, k3⟩
   ·exact .inl ⟨k1, start (Ev.no (fun h => ha (of_decide_eq_true h)) (Ev.bind c5 (Ev.no (by simp) k2)))⟩
   ·exact .inr ⟨a, b, t, um2, k1, k2, start (Ev.no (fun h => ha (of_decide_eq_true h)) (Ev.bind c5 (Ev.no (by simp) k3)))⟩
theorem rupto_loop (ok : RulesOk w) (mk : ModesOk w) (at' : Int) (l : List DEvent) (hl : l.length ≤ 5000) : ∀ (d i : Nat) (mode : S) (s : OU) (us : List S) (T : List DFired), i + d = l.length → UL us s.2 → s.1.length = nRu w → T.length ≤ 10000 * i → us.length ≤ 10 * T.length →
 (playM w (preE at' (l.drop i)) mode s T = none ∧ Ev (fun k => perigeeref8_upTo.c0 k l at' w.1 w.2.1 w.2.2.1 w.2.2.2 mode s.1 us T (i : Int)) (none, (17, ()))) ∨
 ∃ mode' s' T' us', playM w (preE at' (l.drop i)) mode s T = some (mode', (s', T')) ∧ UL us' s'.2 ∧ us'.length ≤ 1000000000 ∧ Ev (fun k => perigeeref8_upTo.c0 k l at' w.1 w.2.1 w.2.2.1 w.2.2.2 mode s.1 us T (i : Int)) (some (cft w mode' s'.1 us' T'), (0, ())) := by
 intro d
 induction d with
 | zero =>
  intro i mode s us T hi hu hon hT hU
  rw [List.drop_of_length_le (by omega)]
  exact .inr ⟨mode, s, T, us, rfl, hu, by omega, Ev.step (fun k => perigeeref8_upTo.c0_eq _ _ _ _ _ _ _ _ _ _ _ _) (Ev.no (by simp; omega) (Ev.now _))⟩
 | succ d ih =>
  intro i mode s us T hi hu hon hT hU
  have hil : i < l.length := by omega
  have hw : IntKind.wrap .i64 ((i : Int) + 1) = ((i + 1 : Nat) : Int) := by rw [w64 (by omega) (by omega)]; omega
  have hg : l.getD i (Ty.dflt YEvent) = l[i] := getD_nat _ _ _ hil
  rw [List.drop_eq_getElem_cons hil]
  generalize l[i] = e at hg
  have yes : ∀ {r}, e.1 ≤ at' → Ev (fun k => (perigeeref8_craft_come.f k (cft w mode s.1 us T) e).bind fun r5 => if (!(decide (r5.1 = 0))) = true then some (none, (r5.1, ())) else perigeeref8_upTo.c0 k l at' r5.2.1.1.1 r5.2.1.1.2.1 r5.2.1.1.2.2.1 r5.2.1.1.2.2.2 r5.2.1.2.1 r5.2.1.2.2.1 r5.2.1.2.2.2.1 r5.2.1.2.2.2.2 ((i + 1 : Nat) : Int)) r →
   Ev (fun k => perigeeref8_upTo.c0 k l at' w.1 w.2.1 w.2.2.1 w.2.2.2 mode s.1 us T (i : Int)) r := fun {r} ha h => by
   refine Ev.step (fun k => perigeeref8_upTo.c0_eq _ _ _ _ _ _ _ _ _ _ _ _) (Ev.yes (decide_eq_true (by omega)) (Ev.yes (by omega) ?_))
   simp only [Int.toNat_natCast, hg, hw]
   exact Ev.yes (decide_eq_true ha) (Ev.yes (by omega) h)
  by_cases ha : at' < e.1
  ·have e1 : preE at' (e :: l.drop (i + 1)) = [] := by unfold preE; rw [List.takeWhile_cons, if_neg (by simpa using ha)]
   rw [e1]
   refine .inr ⟨mode, s, T, us, rfl, hu, by omega, Ev.step (fun k => perigeeref8_upTo.c0_eq _ _ _ _ _ _ _ _ _ _ _ _) (Ev.yes (decide_eq_true (by omega)) (Ev.yes (by omega) ?_))⟩
   simp only [Int.toNat_natCast, hg, hw]
   exact Ev.no (by simpa using ha) (Ev.now _)
  have ha' : e.1 ≤ at' := by omega
  have e1 : preE at' (e :: l.drop (i + 1)) = e :: preE at' (l.drop (i + 1)) := by unfold preE; rw [List.takeWhile_cons, if_pos (decide_eq_true ha')]
  rw [e1]
  rcases rcome_ev ok mk (T0 := T) (by omega) mode s us e hu hon hU with ⟨c1, c, c2⟩ | ⟨mode', s', told', c1, c2, c3, us', c4, c5, c6⟩
  ·exact .inl ⟨by simp only [playM, c1], yes ha' (Ev.bind c2 (Ev.yes rfl (Ev.now _)))⟩
  ·have e2 : playM w (e :: preE at' (l.drop (i + 1))) mode s T = playM w (preE at' (l.drop (i + 1))) mode' s' (T ++ told') := by simp only [playM, c1]
   rw [e2]
   rcases ih (i + 1) mode' s' us' (T ++ told') (by omega) c4 c3 (by rw [List.length_append]; omega) c5 with ⟨k1, k2⟩ | ⟨a, b, t, us2, k1, k2, k3, k4⟩
   ·exact .inl ⟨k1, yes ha' (Ev.bind c6 (Ev.no (by simp) k2))⟩
   ·exact .inr ⟨a, b, t, us2, k1, k2, k3, yes ha' (Ev.bind c6 (Ev.no (by simp) k4))⟩
end
def upR (w : DWatch) (l : List DEvent) (at' c e : Int) : Int := firstN [c, e, if 0 ≤ at' ∧ at' ≤ 1000000000000 then 0 else 1]
theorem upto_twin (w : DWatch) (l : List DEvent) (at' : Int) {c e : Int} (p1 : Ev (fun k => monitor_CheckWatch.f k w) (c, ())) (p2 : Ev (fun k => perigeeref8_CheckWatch.f k w) (c, ())) (e1 : Ev (fun k => monitor_CheckEvents.f k l) (e, ())) (e2 : Ev (fun k => perigeeref8_CheckEvents.f k l) (e, ())) (ok : c = 0 → RulesOk w ∧ ModesOk w) (hl : e = 0 → EvOk l) :
 (∃ x : Int, x ≠ 0 ∧ (upR w l at' c e = 0 → x = 17 ∧ playM w (preE at' l) w.2.2.1 (ou0 w) [] = none) ∧ Ev (fun k => monitor_upTo.f k w l at') (none, (x, ())) ∧ Ev (fun k => perigeeref8_upTo.f k w l at') (none, (x, ()))) ∨
 ∃ mode s T to ru um us, playM w (preE at' l) w.2.2.1 (ou0 w) [] = some (mode, (s, T)) ∧ UM um s.2 ∧ UL us s.2 ∧ us.length ≤ 1000000000 ∧ Ev (fun k => monitor_upTo.f k w l at') (some (plr w mode to ru s.1 um), (0, ())) ∧ Ev (fun k => perigeeref8_upTo.f k w l at') (some (cft w mode s.1 us T), (0, ())) := by
 by_cases h0 : upR w l at' c e = 0
 case neg =>
  refine .inl ⟨upR w l at' c e, h0, fun h => absurd h h0, ?_, ?_⟩
  ·refine Ev.eq (fun k => monitor_upTo.f_eq _ _ _ _) (Ev.bind p1 (Ev.bind e1 ?_))
   simp only [range_ev, Option.bind_some]
   exact Ev.bind (first_ev [c, e, if 0 ≤ at' ∧ at' ≤ 1000000000000 then 0 else 1] (by simp)) (Ev.yes (by simpa [upR] using h0) (Ev.now _))
  ·refine Ev.eq (fun k => perigeeref8_upTo.f_eq _ _ _ _) (Ev.bind p2 ?_)
   by_cases hc : c = 0
   case neg =>
    rw [show upR w l at' c e = c by simp [upR, firstN, hc]]
    exact Ev.yes (by simpa using hc) (Ev.now _)
   refine Ev.no (by simp [hc]) (Ev.bind e2 ?_)
   by_cases he : e = 0
   case neg =>
    rw [show upR w l at' c e = e by simp [upR, firstN, hc, he]]
    exact Ev.yes (by simpa using he) (Ev.now _)
   refine Ev.no (by simp [he]) ?_
   simp only [rwithin, Option.bind_some]
   by_cases ha : 0 ≤ at' ∧ at' ≤ 1000000000000
   ·exact absurd (by simp [upR, firstN, hc, he, ha]) h0
   ·rw [show upR w l at' c e = 1 by simp only [upR, if_neg ha]; simp [firstN, hc, he]]
    exact Ev.yes (by simp only [decide_eq_false ha]; rfl) (Ev.now _)
 have hz := firstN_zero.1 h0
 have hc : c = 0 := hz c (by simp)
 have he : e = 0 := hz e (by simp)
 have ha : 0 ≤ at' ∧ at' ≤ 1000000000000 := by
  have := hz (if 0 ≤ at' ∧ at' ≤ 1000000000000 then 0 else 1) (by simp)
  exact Classical.byContradiction fun h => by rw [if_neg h] at this; cases this
 obtain ⟨rk, mk⟩ := ok hc
 have ll := (hl he).1
 obtain ⟨to, ru, n1, n2, n3⟩ := newPlayer_ev w mk.cl rk.rl
 have pre : ∀ {r}, Ev (fun k => monitor_upTo.c0 k at' w.2.2.1 to ru w.1 w.2.1 w.2.2.1 w.2.2.2 (ou0 w).1 [] l (l.length : Int) ((0 : Nat) : Int)) r → Ev (fun k => monitor_upTo.f k w l at') r := fun {r} h => by
  refine Ev.eq (fun k => monitor_upTo.f_eq _ _ _ _) (Ev.bind p1 (Ev.bind e1 ?_))
  simp only [range_ev, Option.bind_some]
  exact Ev.bind (first_ev [c, e, if 0 ≤ at' ∧ at' ≤ 1000000000000 then 0 else 1] (by simp)) (Ev.no (by rw [show firstN [c, e, if 0 ≤ at' ∧ at' ≤ 1000000000000 then 0 else 1] = 0 from h0]; simp) (Ev.bind n3 (Ev.yes rfl h)))
 have rpre : ∀ {r}, Ev (fun k => perigeeref8_upTo.c0 k l at' w.1 w.2.1 w.2.2.1 w.2.2.2 w.2.2.1 (ou0 w).1 [] [] ((0 : Nat) : Int)) r → Ev (fun k => perigeeref8_upTo.f k w l at') r := fun {r} h => by
  refine Ev.eq (fun k => perigeeref8_upTo.f_eq _ _ _ _) (Ev.bind p2 (Ev.no (by simp [hc]) (Ev.bind e2 (Ev.no (by simp [he]) ?_))))
  simp only [rwithin, Option.bind_some]
  exact Ev.no (by simp only [decide_eq_true ha]; simp) (Ev.bind (newCraft_ev w rk.rl) (Ev.yes rfl h))
 have a1 := pupto_loop rk n1 n2 at' l ll l.length 0 w.2.2.1 (ou0 w) [] [] (by omega) um0 (by simp [ou0])
 have a2 := rupto_loop rk mk at' l ll l.length 0 w.2.2.1 (ou0 w) [] [] (by omega) ul0 (by simp [ou0]) (by simp) (by simp)
 rw [List.drop_zero] at a1 a2
 rcases a1 with ⟨a3, a4⟩ | ⟨mode, s, T, um, a3, a4, a5⟩
 ·rcases a2 with ⟨b3, b4⟩ | ⟨_, _, _, _, b3, _⟩
  ·exact .inl ⟨17, by decide, fun _ => ⟨rfl, a3⟩, pre a4, rpre b4⟩
  ·rw [a3] at b3; cases b3
 ·rcases a2 with ⟨b3, b4⟩ | ⟨mode', s', T', us, b3, b4, b5, b6⟩
  ·rw [a3] at b3; cases b3
  ·rw [a3] at b3
   cases b3
   exact .inr ⟨mode, s, T, to, ru, um, us, a3, a4, b4, b5, pre a5, rpre b6⟩
end Go.Proofs.Ytadhpgecilhgnaa.Pure

-- YtadhpgecilhgnaaPureWatchesStateMatchSpec
set_option linter.unusedVariables false
set_option linter.unusedSimpArgs false
namespace Go.Proofs.Ytadhpgecilhgnaa.Pure
open Go Go.Proofs.Ytadhpgecilhgnaa.A
theorem WatchesStateMatchSpec (w : DWatch) (l : List DEvent) (at' : Int) (h0 : okT YWatch w) (h1 : okT (.sl YEvent) l) (h2 : okT (.int .i64) at') : ∃ n, perigeelaw8_WatchesStateMatchSpec.f n w l at' = some (true, ()) := by
 refine Ev.rounds (g := fun k => perigeelaw8_WatchesStateMatchSpec.f k w l at') ?_
 obtain ⟨c, e, r, q1, q2, e1, e2, ok, ek, _⟩ := plays w l h0 h1
 rcases upto_twin w l at' q1 q2 e1 e2 ok ek.1 with ⟨x, x0, _, u1, u2⟩ | ⟨mode, s, T, to, ru, um, us, _, k1, k2, k3, u1, u2⟩
 ·have a1 : Ev (fun k => monitor_ModeAt.f k w l at') ([], (x, ())) := Ev.eq (fun k => monitor_ModeAt.f_eq _ _ _ _) (Ev.bind u1 (Ev.no (by simp) (Ev.yes (by simpa using x0) (Ev.now _))))
  have a2 : Ev (fun k => perigeeref8_ModeAt.f k w l at') ([], (x, ())) := Ev.eq (fun k => perigeeref8_ModeAt.f_eq _ _ _ _) (Ev.bind u2 (Ev.no (by simp) (Ev.yes (by simpa using x0) (Ev.now _))))
  have a3 : Ev (fun k => monitor_UnitsOn.f k w l at') ([], (x, ())) := Ev.eq (fun k => monitor_UnitsOn.f_eq _ _ _ _) (Ev.bind u1 (Ev.no (by simp) (Ev.yes (by simpa using x0) (Ev.now _))))
  have a4 : Ev (fun k => perigeeref8_UnitsOn.f k w l at') ([], (x, ())) := Ev.eq (fun k => perigeeref8_UnitsOn.f_eq _ _ _ _) (Ev.bind u2 (Ev.no (by simp) (Ev.yes (by simpa using x0) (Ev.now _))))
  exact Ev.eq (fun k => perigeelaw8_WatchesStateMatchSpec.f_eq _ _ _ _) (Ev.bind a1 (Ev.bind a2 (Ev.bind a3 (Ev.bind a4 (Ev.yes (by simp) (Ev.yes (by simp) (Ev.bind (equal_ev [] (by simp)) (Ev.yes rfl (Ev.yes (by simp) (Ev.bind awake_ev (Ev.now _)))))))))))
 ·have a1 : Ev (fun k => monitor_ModeAt.f k w l at') (mode, (0, ())) := Ev.eq (fun k => monitor_ModeAt.f_eq _ _ _ _) (Ev.bind u1 (Ev.yes rfl (Ev.no (by simp) (Ev.now _))))
  have a2 : Ev (fun k => perigeeref8_ModeAt.f k w l at') (mode, (0, ())) := Ev.eq (fun k => perigeeref8_ModeAt.f_eq _ _ _ _) (Ev.bind u2 (Ev.yes rfl (Ev.no (by simp) (Ev.now _))))
  have a3 : Ev (fun k => monitor_UnitsOn.f k w l at') (us, (0, ())) := Ev.eq (fun k => monitor_UnitsOn.f_eq _ _ _ _) (Ev.bind u1 (Ev.yes rfl (Ev.no (by simp) (unitsOn_ev k1 k2 k3))))
  have a4 : Ev (fun k => perigeeref8_UnitsOn.f k w l at') (us, (0, ())) := Ev.eq (fun k => perigeeref8_UnitsOn.f_eq _ _ _ _) (Ev.bind u2 (Ev.yes rfl (Ev.no (by simp) (Ev.now _))))
  exact Ev.eq (fun k => perigeelaw8_WatchesStateMatchSpec.f_eq _ _ _ _) (Ev.bind a1 (Ev.bind a2 (Ev.bind a3 (Ev.bind a4 (Ev.yes (by simp) (Ev.yes (by simp) (Ev.bind (equal_ev us (by omega)) (Ev.yes rfl (Ev.yes (by simp) (Ev.bind awake_ev (Ev.now _)))))))))))
end Go.Proofs.Ytadhpgecilhgnaa.Pure
