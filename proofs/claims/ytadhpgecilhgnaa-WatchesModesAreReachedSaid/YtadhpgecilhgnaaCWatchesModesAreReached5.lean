/- the mode behind any events is one that can be reached from the first one, and what is told came in such modes -/
import Derived.Sort.Walk0
import Derived.Test.YtadhpgecilhgnaaCWatchesModesAreReached4
-- YtadhpgecilhgnaaQ47
set_option linter.unusedVariables false
set_option linter.unusedSimpArgs false
namespace Go.Proofs.Ytadhpgecilhgnaa.Pure
open Go Go.Proofs.Ytadhpgecilhgnaa.A
def playM (w : DWatch) : List DEvent → S → OU → List DFired → Option (S × OU × List DFired)
 | [], mode, s, T => some (mode, (s, T))
 | e :: l, mode, s, T => match comeM w e.1 10001 mode s [] [e.2] with
  | none => none
  | some (mode', (s', told)) => playM w l mode' s' (T ++ told)
def ou0 (w : DWatch) : OU := (List.replicate (nRu w) true, fun _ => false)
def resP : Option (S × OU × List DFired) → List DFired × Int × Unit
 | none => ([], (17, ()))
 | some (_, (_, T)) => (T, (0, ()))
def EvG (l : List DEvent) (i : Nat) : Prop := (0 ≤ (l.getD i (Ty.dflt YEvent)).1 ∧ (l.getD i (Ty.dflt YEvent)).1 ≤ 1000000000000) ∧ isNm (l.getD i (Ty.dflt YEvent)).2 = true ∧ (i ≠ 0 → ¬ (l.getD i (Ty.dflt YEvent)).1 < (l.getD (i - 1) (Ty.dflt YEvent)).1)
def EvOk (l : List DEvent) : Prop := l.length ≤ 5000 ∧ ∀ i, i < l.length → EvG l i
theorem evg_step {l : List DEvent} {i : Nat} (hi : i < l.length) : (∀ j, i ≤ j → j < l.length → EvG l j) ↔ EvG l i ∧ ∀ j, i + 1 ≤ j → j < l.length → EvG l j :=
 ⟨fun h => ⟨h i (Nat.le_refl _) hi, fun j h1 h2 => h j (by omega) h2⟩, fun h j h1 h2 => by
  by_cases e : j = i
  ·exact e ▸ h.1
  ·exact h.2 j (by omega) h2⟩
theorem events_twin (l : List DEvent) (h1 : okT (.sl YEvent) l) : ∃ c : Int, Ev (fun k => monitor_CheckEvents.f k l) (c, ()) ∧ Ev (fun k => perigeeref8_CheckEvents.f k l) (c, ()) ∧ (c = 0 ↔ EvOk l) := by
 by_cases hl : 5000 < l.length
 ·exact ⟨2, Ev.eq (fun k => monitor_CheckEvents.f_eq _ _) (Ev.yes (decide_eq_true (by omega)) (Ev.now _)), Ev.eq (fun k => perigeeref8_CheckEvents.f_eq _ _) (Ev.yes (decide_eq_true (by omega)) (Ev.now _)), ⟨fun h => absurd h (by decide), fun h => absurd h.1 (by omega)⟩⟩
 have loop : ∀ (d i : Nat), i + d = l.length → ∃ c : Int, Ev (fun k => monitor_CheckEvents.c0 k l l (l.length : Int) (i : Int)) (c, ()) ∧ Ev (fun k => perigeeref8_CheckEvents.c0 k l (i : Int)) (c, ()) ∧ (c = 0 ↔ ∀ j, i ≤ j → j < l.length → EvG l j) := by
  intro d
  induction d with
  | zero =>
   intro i hi
   exact ⟨0, Ev.step (fun k => monitor_CheckEvents.c0_eq _ _ _ _ _) (Ev.no (by simp; omega) (Ev.now _)), Ev.step (fun k => perigeeref8_CheckEvents.c0_eq _ _ _) (Ev.no (by simp; omega) (Ev.now _)), fun _ j _ _ => by omega, fun _ => rfl⟩
  | succ d ih =>
   intro i hi
   have hil : i < l.length := by omega
   have hw : IntKind.wrap .i64 ((i : Int) + 1) = ((i + 1 : Nat) : Int) := by rw [w64 (by omega) (by omega)]; omega
   have hx := h1.2.2 _ (getD_mem (z := Ty.dflt YEvent) hil)
   have hG : EvG l i ↔ (0 ≤ (l.getD i (Ty.dflt YEvent)).1 ∧ (l.getD i (Ty.dflt YEvent)).1 ≤ 1000000000000) ∧ isNm (l.getD i (Ty.dflt YEvent)).2 = true ∧ (i ≠ 0 → ¬ (l.getD i (Ty.dflt YEvent)).1 < (l.getD (i - 1) (Ty.dflt YEvent)).1) := Iff.rfl
   rw [evg_step hil]
   generalize hcc : l.getD i (Ty.dflt YEvent) = x at hx hG
   obtain ⟨n1, _⟩ := name_ev x.2 hx.2
   have n2 := rname_ev x.2 hx.2
   by_cases a1 : (0 : Int) ≤ x.1 ∧ x.1 ≤ 1000000000000
   case neg =>
    refine ⟨1, Ev.step (fun k => monitor_CheckEvents.c0_eq _ _ _ _ _) (Ev.yes (decide_eq_true (by omega)) (Ev.yes (by omega) ?_)), Ev.step (fun k => perigeeref8_CheckEvents.c0_eq _ _ _) (Ev.yes (decide_eq_true (by omega)) (Ev.yes (by omega) ?_)), ⟨fun h => absurd h (by decide), fun h => absurd (hG.1 h.1).1 a1⟩⟩
    ·simp only [Int.toNat_natCast, hcc, in_ev, Option.bind_some]
     exact Ev.yes (by simp only [decide_eq_false a1]; rfl) (Ev.now _)
    ·simp only [Int.toNat_natCast, hcc, rwithin, Option.bind_some]
     exact Ev.yes (by simp only [decide_eq_false a1]; rfl) (Ev.now _)
   by_cases a2 : isNm x.2 = true
   case neg =>
    refine ⟨5, Ev.step (fun k => monitor_CheckEvents.c0_eq _ _ _ _ _) (Ev.yes (decide_eq_true (by omega)) (Ev.yes (by omega) ?_)), Ev.step (fun k => perigeeref8_CheckEvents.c0_eq _ _ _) (Ev.yes (decide_eq_true (by omega)) (Ev.yes (by omega) ?_)), ⟨fun h => absurd h (by decide), fun h => absurd (hG.1 h.1).2.1 a2⟩⟩
    ·simp only [Int.toNat_natCast, hcc, in_ev, Option.bind_some]
     exact Ev.no (by simp only [decide_eq_true a1]; simp) (Ev.bind n1 (Ev.yes (by simpa using a2) (Ev.now _)))
    ·simp only [Int.toNat_natCast, hcc, rwithin, Option.bind_some]
     exact Ev.no (by simp only [decide_eq_true a1]; simp) (Ev.yes (by omega) (Ev.bind n2 (Ev.yes (by simpa using a2) (Ev.now _))))
   obtain ⟨c, c1, c2, c3⟩ := ih (i + 1) (by omega)
   by_cases i0 : i = 0
   ·refine ⟨c, Ev.step (fun k => monitor_CheckEvents.c0_eq _ _ _ _ _) (Ev.yes (decide_eq_true (by omega)) (Ev.yes (by omega) ?_)), Ev.step (fun k => perigeeref8_CheckEvents.c0_eq _ _ _) (Ev.yes (decide_eq_true (by omega)) (Ev.yes (by omega) ?_)), c3.trans ⟨fun h => ⟨hG.2 ⟨a1, a2, fun e => absurd i0 e⟩, h⟩, fun h => h.2⟩⟩
    ·simp only [Int.toNat_natCast, hcc, in_ev, Option.bind_some, hw]
     exact Ev.no (by simp only [decide_eq_true a1]; simp) (Ev.bind n1 (Ev.no (by simp [a2]) (Ev.no (by simp [i0]) c1)))
    ·simp only [Int.toNat_natCast, hcc, rwithin, Option.bind_some, hw]
     exact Ev.no (by simp only [decide_eq_true a1]; simp) (Ev.yes (by omega) (Ev.bind n2 (Ev.no (by simp [a2]) (Ev.no (by simp [i0]) c2))))
   have hp := wpred i0 (by omega)
   by_cases l1 : x.1 < (l.getD (i - 1) (Ty.dflt YEvent)).1
   ·refine ⟨8, Ev.step (fun k => monitor_CheckEvents.c0_eq _ _ _ _ _) (Ev.yes (decide_eq_true (by omega)) (Ev.yes (by omega) ?_)), Ev.step (fun k => perigeeref8_CheckEvents.c0_eq _ _ _) (Ev.yes (decide_eq_true (by omega)) (Ev.yes (by omega) ?_)), ⟨fun h => absurd h (by decide), fun h => absurd l1 ((hG.1 h.1).2.2 i0)⟩⟩
    ·simp only [Int.toNat_natCast, hcc, in_ev, Option.bind_some, hw, hp]
     exact Ev.no (by simp only [decide_eq_true a1]; simp) (Ev.bind n1 (Ev.no (by simp [a2]) (Ev.yes (decide_eq_true (by omega)) (Ev.yes (by omega) (Ev.yes (decide_eq_true l1) (Ev.now _))))))
    ·simp only [Int.toNat_natCast, hcc, rwithin, Option.bind_some, hw, hp]
     exact Ev.no (by simp only [decide_eq_true a1]; simp) (Ev.yes (by omega) (Ev.bind n2 (Ev.no (by simp [a2]) (Ev.yes (decide_eq_true (by omega)) (Ev.yes (by omega) (Ev.yes (by omega) (Ev.yes (decide_eq_true l1) (Ev.now _))))))))
   ·refine ⟨c, Ev.step (fun k => monitor_CheckEvents.c0_eq _ _ _ _ _) (Ev.yes (decide_eq_true (by omega)) (Ev.yes (by omega) ?_)), Ev.step (fun k => perigeeref8_CheckEvents.c0_eq _ _ _) (Ev.yes (decide_eq_true (by omega)) (Ev.yes (by omega) ?_)), c3.trans ⟨fun h => ⟨hG.2 ⟨a1, a2, fun _ => l1⟩, h⟩, fun h => h.2⟩⟩
    ·simp only [Int.toNat_natCast, hcc, in_ev, Option.bind_some, hw, hp]
     exact Ev.no (by simp only [decide_eq_true a1]; simp) (Ev.bind n1 (Ev.no (by simp [a2]) (Ev.yes (decide_eq_true (by omega)) (Ev.yes (by omega) (Ev.no (fun h => l1 (of_decide_eq_true h)) c1)))))
    ·simp only [Int.toNat_natCast, hcc, rwithin, Option.bind_some, hw, hp]
     exact Ev.no (by simp only [decide_eq_true a1]; simp) (Ev.yes (by omega) (Ev.bind n2 (Ev.no (by simp [a2]) (Ev.yes (decide_eq_true (by omega)) (Ev.yes (by omega) (Ev.yes (by omega) (Ev.no (fun h => l1 (of_decide_eq_true h)) c2)))))))
 obtain ⟨c, c1, c2, c3⟩ := loop l.length 0 (by omega)
 exact ⟨c, Ev.eq (fun k => monitor_CheckEvents.f_eq _ _) (Ev.no (fun h => hl (by have := of_decide_eq_true h; omega)) c1), Ev.eq (fun k => perigeeref8_CheckEvents.f_eq _ _) (Ev.no (fun h => hl (by have := of_decide_eq_true h; omega)) c2), c3.trans ⟨fun h => ⟨by omega, fun i hi => h i (by omega) hi⟩, fun h i _ hi => h.2 i hi⟩⟩
section
variable {w : DWatch} {to : List ((S × S) × S)} {ru : List (S × List Int)}
theorem pplay_loop (ok : RulesOk w) (hto : PTo w.2.1 to) (hru : PRu w (nRu w) ru) (l : List DEvent) (hl : l.length ≤ 5000) : ∀ (d i : Nat) (mode : S) (s : OU) (um : List (S × Bool)) (T : List DFired), i + d = l.length → UM um s.2 → s.1.length = nRu w → T.length ≤ 10000 * i →
 Ev (fun k => monitor_Play.c0 k mode to ru w.1 w.2.1 w.2.2.1 w.2.2.2 s.1 um T l (l.length : Int) (i : Int)) (resP (playM w (l.drop i) mode s T)) := by
 intro d
 induction d with
 | zero =>
  intro i mode s um T hi hum hon hT
  rw [List.drop_of_length_le (by omega)]
  exact Ev.step (fun k => monitor_Play.c0_eq _ _ _ _ _ _ _ _ _ _ _ _ _ _) (Ev.no (by simp; omega) (Ev.now _))
 | succ d ih =>
  intro i mode s um T hi hum hon hT
  have hil : i < l.length := by omega
  have hw : IntKind.wrap .i64 ((i : Int) + 1) = ((i + 1 : Nat) : Int) := by rw [w64 (by omega) (by omega)]; omega
  have hg : l.getD i (Ty.dflt YEvent) = l[i] := getD_nat _ _ _ hil
  rw [List.drop_eq_getElem_cons hil]
  generalize l[i] = e at hg
  refine Ev.step (fun k => monitor_Play.c0_eq _ _ _ _ _ _ _ _ _ _ _ _ _ _) (Ev.yes (decide_eq_true (by omega)) (Ev.yes (by omega) ?_))
  simp only [Int.toNat_natCast, hg, hw]
  rcases pcome_ev ok hto hru mode s um e hum hon with ⟨c1, p, c2⟩ | ⟨mode', s', told', c1, c2, c3, um', c4, c5⟩
  ·have : playM w (e :: l.drop (i + 1)) mode s T = none := by simp only [playM, c1]
   rw [this]
   exact Ev.bind c2 (Ev.yes rfl (Ev.now _))
  ·have : playM w (e :: l.drop (i + 1)) mode s T = playM w (l.drop (i + 1)) mode' s' (T ++ told') := by simp only [playM, c1]
   rw [this]
   exact Ev.bind c5 (Ev.no (by simp) (Ev.yes (by simp only; omega) (ih (i + 1) mode' s' um' (T ++ told') (by omega) c4 c3 (by rw [List.length_append]; omega))))
theorem rplay_loop (ok : RulesOk w) (mk : ModesOk w) (l : List DEvent) (hl : l.length ≤ 5000) : ∀ (d i : Nat) (mode : S) (s : OU) (us : List S) (T : List DFired), i + d = l.length → UL us s.2 → s.1.length = nRu w → T.length ≤ 10000 * i → us.length ≤ 10 * T.length →
 Ev (fun k => perigeeref8_Play.c0 k l w.1 w.2.1 w.2.2.1 w.2.2.2 mode s.1 us T (i : Int)) (resP (playM w (l.drop i) mode s T)) := by
 intro d
 induction d with
 | zero =>
  intro i mode s us T hi hu hon hT hU
  rw [List.drop_of_length_le (by omega)]
  exact Ev.step (fun k => perigeeref8_Play.c0_eq _ _ _ _ _ _ _ _ _ _ _) (Ev.no (by simp; omega) (Ev.now _))
 | succ d ih =>
  intro i mode s us T hi hu hon hT hU
  have hil : i < l.length := by omega
  have hw : IntKind.wrap .i64 ((i : Int) + 1) = ((i + 1 : Nat) : Int) := by rw [w64 (by omega) (by omega)]; omega
  have hg : l.getD i (Ty.dflt YEvent) = l[i] := getD_nat _ _ _ hil
  rw [List.drop_eq_getElem_cons hil]
  generalize l[i] = e at hg
  refine Ev.step (fun k => perigeeref8_Play.c0_eq _ _ _ _ _ _ _ _ _ _ _) (Ev.yes (decide_eq_true (by omega)) (Ev.yes (by omega) ?_))
  simp only [Int.toNat_natCast, hg, hw]
  rcases rcome_ev ok mk (by omega) mode s us e hu hon hU with ⟨c1, c, c2⟩ | ⟨mode', s', told', c1, c2, c3, us', c4, c5, c6⟩
  ·have : playM w (e :: l.drop (i + 1)) mode s T = none := by simp only [playM, c1]
   rw [this]
   exact Ev.bind c2 (Ev.yes rfl (Ev.now _))
  ·have : playM w (e :: l.drop (i + 1)) mode s T = playM w (l.drop (i + 1)) mode' s' (T ++ told') := by simp only [playM, c1]
   rw [this]
   exact Ev.bind c6 (Ev.no (by simp) (ih (i + 1) mode' s' us' (T ++ told') (by omega) c4 c3 (by rw [List.length_append]; omega) c5))
theorem um0 : UM [] (fun _ => false) := ⟨fun u => rfl, by simp⟩
theorem ul0 : UL [] (fun _ => false) := ⟨List.Pairwise.nil, fun u => by simp⟩
theorem pplay_ev (l : List DEvent) {c e : Int} (h1 : Ev (fun k => monitor_CheckWatch.f k w) (c, ())) (h3 : Ev (fun k => monitor_CheckEvents.f k l) (e, ())) (ok : c = 0 → RulesOk w ∧ ModesOk w) (hl : e = 0 → EvOk l) :
 Ev (fun k => monitor_Play.f k w l) (if firstN [c, e] = 0 then resP (playM w l w.2.2.1 (ou0 w) []) else ([], (firstN [c, e], ()))) := by
 refine Ev.eq (fun k => monitor_Play.f_eq _ _ _) (Ev.bind h1 (Ev.bind h3 (Ev.bind (first_ev [c, e] (by simp)) ?_)))
 by_cases h0 : firstN [c, e] = 0
 ·rw [if_pos h0]
  have hz := firstN_zero.1 h0
  have hc : c = 0 := hz c (by simp)
  have he : e = 0 := hz e (by simp)
  obtain ⟨rk, mk⟩ := ok hc
  obtain ⟨to, ru, n1, n2, n3⟩ := newPlayer_ev w mk.cl rk.rl
  refine Ev.no (by simp [h0]) (Ev.bind n3 (Ev.yes rfl ?_))
  exact pplay_loop rk n1 n2 l (hl he).1 l.length 0 w.2.2.1 (ou0 w) [] [] (by omega) um0 (by simp [ou0]) (by simp)
 ·rw [if_neg h0]
  exact Ev.yes (by simpa using h0) (Ev.now _)
theorem rplay_ev (l : List DEvent) {c e : Int} (h1 : Ev (fun k => perigeeref8_CheckWatch.f k w) (c, ())) (h3 : Ev (fun k => perigeeref8_CheckEvents.f k l) (e, ())) (ok : c = 0 → RulesOk w ∧ ModesOk w) (hl : e = 0 → EvOk l) :
 Ev (fun k => perigeeref8_Play.f k w l) (if firstN [c, e] = 0 then resP (playM w l w.2.2.1 (ou0 w) []) else ([], (firstN [c, e], ()))) := by
 refine Ev.eq (fun k => perigeeref8_Play.f_eq _ _ _) (Ev.bind h1 ?_)
 by_cases hc : c = 0
 case neg =>
  have : firstN [c, e] = c := by simp [firstN, hc]
  rw [this, if_neg hc]
  exact Ev.yes (by simpa using hc) (Ev.now _)
 refine Ev.no (by simp [hc]) (Ev.bind h3 ?_)
 by_cases he : e = 0
 case neg =>
  have : firstN [c, e] = e := by simp [firstN, hc, he]
  rw [this, if_neg he]
  exact Ev.yes (by simpa using he) (Ev.now _)
 have : firstN [c, e] = 0 := by simp [firstN, hc, he]
 rw [if_pos this]
 obtain ⟨rk, mk⟩ := ok hc
 refine Ev.no (by simp [he]) (Ev.bind (newCraft_ev w rk.rl) (Ev.yes rfl ?_))
 exact rplay_loop rk mk l (hl he).1 l.length 0 w.2.2.1 (ou0 w) [] [] (by omega) ul0 (by simp [ou0]) (by simp) (by simp)
end
theorem comeM_len {w : DWatch} {at' : Int} : ∀ (n : Nat) (mode : S) (s : OU) (told : List DFired) (q : List S), told.length ≤ 10000 → ∀ r, comeM w at' n mode s told q = some r → r.2.2.length ≤ 10000
 | _, mode, s, told, [], h, r, e => by
  have : some (mode, (s, told)) = some r := by rw [← e]; unfold comeM; rfl
  cases this; exact h
 | 0, _, _, _, _ :: _, _, r, e => by cases e
 | n + 1, mode, s, told, ev :: q, h, r, e => by
  rw [comeM] at e
  split at e
  ·cases e
  ·next hb => exact comeM_len n _ _ _ _ (Nat.le_of_not_lt hb) r e
theorem playM_len {w : DWatch} : ∀ (l : List DEvent) (mode : S) (s : OU) (T : List DFired), ∀ r, playM w l mode s T = some r → r.2.2.length ≤ T.length + 10000 * l.length
 | [], mode, s, T, r, h => by cases h; simp
 | e :: l, mode, s, T, r, h => by
  simp only [playM] at h
  cases hc : comeM w e.1 10001 mode s [] [e.2] with
  | none => rw [hc] at h; cases h
  | some q =>
   obtain ⟨mode', s', told⟩ := q
   rw [hc] at h
   have h1 : told.length ≤ 10000 := comeM_len 10001 mode s [] [e.2] (by simp) _ hc
   have h2 := playM_len l mode' s' (T ++ told) r h
   rw [List.length_append] at h2
   rw [List.length_cons]
   omega
end Go.Proofs.Ytadhpgecilhgnaa.Pure

-- YtadhpgecilhgnaaQ48
set_option linter.unusedVariables false
set_option linter.unusedSimpArgs false
namespace Go.Proofs.Ytadhpgecilhgnaa.Pure
open Go Go.Proofs.Ytadhpgecilhgnaa.A
theorem plays (w : DWatch) (l : List DEvent) (h0 : okT YWatch w) (h1 : okT (.sl YEvent) l) : ∃ (c e : Int) (r : List DFired × Int × Unit), Ev (fun k => monitor_CheckWatch.f k w) (c, ()) ∧ Ev (fun k => perigeeref8_CheckWatch.f k w) (c, ()) ∧ Ev (fun k => monitor_CheckEvents.f k l) (e, ()) ∧ Ev (fun k => perigeeref8_CheckEvents.f k l) (e, ()) ∧
 (c = 0 → RulesOk w ∧ ModesOk w) ∧ (e = 0 ↔ EvOk l) ∧ r = (if firstN [c, e] = 0 then resP (playM w l w.2.2.1 (ou0 w) []) else ([], (firstN [c, e], ()))) ∧ r.1.length ≤ 50000000 ∧ Ev (fun k => monitor_Play.f k w l) r ∧ Ev (fun k => perigeeref8_Play.f k w l) r := by
 obtain ⟨c, q1, q2⟩ := watch_twin w h0
 have ok : c = 0 → RulesOk w ∧ ModesOk w := fun hc => by
  obtain ⟨q, k1, k2⟩ := watch_ev w h0
  have e := k1.unique q1
  exact ⟨watch_rules w h0 q1 hc, k2 (by rw [e]; exact hc)⟩
 obtain ⟨e, e1, e2, e3⟩ := events_twin l h1
 refine ⟨c, e, _, q1, q2, e1, e2, ok, e3, rfl, ?_, pplay_ev l q1 e1 ok e3.1, rplay_ev l q2 e2 ok e3.1⟩
 by_cases h : firstN [c, e] = 0
 ·rw [if_pos h]
  have he : e = 0 := firstN_zero.1 h e (by simp)
  have hl := (e3.1 he).1
  cases hp : playM w l w.2.2.1 (ou0 w) [] with
  | none => exact Nat.zero_le _
  | some r =>
   have := playM_len l _ _ _ r hp
   show r.2.2.length ≤ _
   simp only [List.length_nil] at this
   omega
 ·rw [if_neg h]
  exact Nat.zero_le _
end Go.Proofs.Ytadhpgecilhgnaa.Pure

-- YtadhpgecilhgnaaQ49
set_option linter.unusedVariables false
set_option linter.unusedSimpArgs false
namespace Go.Proofs.Ytadhpgecilhgnaa.Pure
open Go Go.Proofs.Ytadhpgecilhgnaa.A
def preE (at' : Int) (l : List DEvent) : List DEvent := l.takeWhile fun e => decide (e.1 ≤ at')
section
variable {w : DWatch} {to : List ((S × S) × S)} {ru : List (S × List Int)}
theorem pupto_loop (ok : RulesOk w) (hto : PTo w.2.1 to) (hru : PRu w (nRu w) ru) (at' : Int) (l : List DEvent) (hl : l.length ≤ 5000) : ∀ (d i : Nat) (mode : S) (s : OU) (um : List (S × Bool)) (T : List DFired), i + d = l.length → UM um s.2 → s.1.length = nRu w →
 (playM w (preE at' (l.drop i)) mode s T = none ∧ Ev (fun k => monitor_upTo.c0 k at' mode to ru w.1 w.2.1 w.2.2.1 w.2.2.2 s.1 um l (l.length : Int) (i : Int)) (none, (17, ()))) ∨
 ∃ mode' s' T' um', playM w (preE at' (l.drop i)) mode s T = some (mode', (s', T')) ∧ UM um' s'.2 ∧ Ev (fun k => monitor_upTo.c0 k at' mode to ru w.1 w.2.1 w.2.2.1 w.2.2.2 s.1 um l (l.length : Int) (i : Int)) (some (plr w mode' to ru s'.1 um'), (0, ())) := by
 intro d
 induction d with
 | zero =>
  intro i mode s um T hi hum hon
  rw [List.drop_of_length_le (by omega)]
  exact .inr ⟨mode, s, T, um, rfl, hum, Ev.step (fun k => monitor_upTo.c0_eq _ _ _ _ _ _ _ _ _ _ _ _ _ _) (Ev.no (by simp; omega) (Ev.now _))⟩
 | succ d ih =>
  intro i mode s um T hi hum hon
  have hil : i < l.length := by omega
  have hw : IntKind.wrap .i64 ((i : Int) + 1) = ((i + 1 : Nat) : Int) := by rw [w64 (by omega) (by omega)]; omega
  have hg : l.getD i (Ty.dflt YEvent) = l[i] := getD_nat _ _ _ hil
  rw [List.drop_eq_getElem_cons hil]
  generalize l[i] = e at hg
  have start : ∀ {r}, Ev (fun k => if decide (at' < e.1) = true then some (some (plr w mode to ru s.1 um), (0, ())) else (monitor_player_come.f k (plr w mode to ru s.1 um) e).bind fun r6 => if (!r6.2.1) = true then some (none, (17, ())) else monitor_upTo.c0 k at' r6.2.2.1.1 r6.2.2.1.2.1 r6.2.2.1.2.2.1 r6.2.2.1.2.2.2.1.1 r6.2.2.1.2.2.2.1.2.1 r6.2.2.1.2.2.2.1.2.2.1 r6.2.2.1.2.2.2.1.2.2.2 r6.2.2.1.2.2.2.2.1 r6.2.2.1.2.2.2.2.2 l (l.length : Int) ((i + 1 : Nat) : Int)) r →
   Ev (fun k => monitor_upTo.c0 k at' mode to ru w.1 w.2.1 w.2.2.1 w.2.2.2 s.1 um l (l.length : Int) (i : Int)) r := fun {r} h => by
   refine Ev.step (fun k => monitor_upTo.c0_eq _ _ _ _ _ _ _ _ _ _ _ _ _ _) (Ev.yes (decide_eq_true (by omega)) (Ev.yes (by omega) ?_))
   simp only [Int.toNat_natCast, hg, hw]
   exact h
  by_cases ha : at' < e.1
  ·have e1 : preE at' (e :: l.drop (i + 1)) = [] := by unfold preE; rw [List.takeWhile_cons, if_neg (by simpa using ha)]
   rw [e1]
   exact .inr ⟨mode, s, T, um, rfl, hum, start (Ev.yes (decide_eq_true ha) (Ev.now _))⟩
  have e1 : preE at' (e :: l.drop (i + 1)) = e :: preE at' (l.drop (i + 1)) := by unfold preE; rw [List.takeWhile_cons, if_pos (decide_eq_true (by omega))]
  rw [e1]
  rcases pcome_ev ok hto hru mode s um e hum hon with ⟨c1, p, c2⟩ | ⟨mode', s', told', c1, c2, c3, um', c4, c5⟩
  ·exact .inl ⟨by simp only [playM, c1], start (Ev.no (fun h => ha (of_decide_eq_true h)) (Ev.bind c2 (Ev.yes rfl (Ev.now _))))⟩
  ·have e2 : playM w (e :: preE at' (l.drop (i + 1))) mode s T = playM w (preE at' (l.drop (i + 1))) mode' s' (T ++ told') := by simp only [playM, c1]
   rw [e2]
   rcases ih (i + 1) mode' s' um' (T ++ told') (by omega) c4 c3 with ⟨k1, k2⟩ | ⟨a, b, t, um2, k1, k2, k3⟩
   ·exact .inl ⟨k1, start (Ev.no (fun h => ha (of_decide_eq_true h)) (Ev.bind c5 (Ev.no (by simp) k2)))⟩
   ·exact .inr ⟨a, b, t, um2, k1, k2, start (Ev.no (fun h => ha (of_decide_eq_true h)) (Ev.bind c5 (Ev.no (by simp) k3)))⟩
theorem rupto_loop (ok : RulesOk w) (mk : ModesOk w) (at' : Int) (l : List DEvent) (hl : l.length ≤ 5000) : ∀ (d i : Nat) (mode : S) (s : OU) (us : List S) (T : List DFired), i + d = l.length → UL us s.2 → s.1.length = nRu w → T.length ≤ 10000 * i → us.length ≤ 10 * T.length →
 (playM w (preE at' (l.drop i)) mode s T = none ∧ Ev (fun k => perigeeref8_upTo.c0 k l at' w.1 w.2.1 w.2.2.1 w.2.2.2 mode s.1 us T (i : Int)) (none, (17, ()))) ∨
 ∃ mode' s' T' us', playM w (preE at' (l.drop i)) mode s T = some (mode', (s', T')) ∧ UL us' s'.2 ∧ us'.length ≤ 1000000000 ∧ Ev (fun k => perigeeref8_upTo.c0 k l at' w.1 w.2.1 w.2.2.1 w.2.2.2 mode s.1 us T (i : Int)) (some (cft w mode' s'.1 us' T'), (0, ())) := by
 intro d
 induction d with
 | zero =>
  intro i mode s us T hi hu hon hT hU
  rw [List.drop_of_length_le (by omega)]
  exact .inr ⟨mode, s, T, us, rfl, hu, by omega, Ev.step (fun k => perigeeref8_upTo.c0_eq _ _ _ _ _ _ _ _ _ _ _ _) (Ev.no (by simp; omega) (Ev.now _))⟩
 | succ d ih =>
  intro i mode s us T hi hu hon hT hU
  have hil : i < l.length := by omega
  have hw : IntKind.wrap .i64 ((i : Int) + 1) = ((i + 1 : Nat) : Int) := by rw [w64 (by omega) (by omega)]; omega
  have hg : l.getD i (Ty.dflt YEvent) = l[i] := getD_nat _ _ _ hil
  rw [List.drop_eq_getElem_cons hil]
  generalize l[i] = e at hg
  have yes : ∀ {r}, e.1 ≤ at' → Ev (fun k => (perigeeref8_craft_come.f k (cft w mode s.1 us T) e).bind fun r5 => if (!(decide (r5.1 = 0))) = true then some (none, (r5.1, ())) else perigeeref8_upTo.c0 k l at' r5.2.1.1.1 r5.2.1.1.2.1 r5.2.1.1.2.2.1 r5.2.1.1.2.2.2 r5.2.1.2.1 r5.2.1.2.2.1 r5.2.1.2.2.2.1 r5.2.1.2.2.2.2 ((i + 1 : Nat) : Int)) r →
   Ev (fun k => perigeeref8_upTo.c0 k l at' w.1 w.2.1 w.2.2.1 w.2.2.2 mode s.1 us T (i : Int)) r := fun {r} ha h => by
   refine Ev.step (fun k => perigeeref8_upTo.c0_eq _ _ _ _ _ _ _ _ _ _ _ _) (Ev.yes (decide_eq_true (by omega)) (Ev.yes (by omega) ?_))
   simp only [Int.toNat_natCast, hg, hw]
   exact Ev.yes (decide_eq_true ha) (Ev.yes (by omega) h)
  by_cases ha : at' < e.1
  ·have e1 : preE at' (e :: l.drop (i + 1)) = [] := by unfold preE; rw [List.takeWhile_cons, if_neg (by simpa using ha)]
   rw [e1]
   refine .inr ⟨mode, s, T, us, rfl, hu, by omega, Ev.step (fun k => perigeeref8_upTo.c0_eq _ _ _ _ _ _ _ _ _ _ _ _) (Ev.yes (decide_eq_true (by omega)) (Ev.yes (by omega) ?_))⟩
   simp only [Int.toNat_natCast, hg, hw]
   exact Ev.no (by simpa using ha) (Ev.now _)
  have ha' : e.1 ≤ at' := by omega
  have e1 : preE at' (e :: l.drop (i + 1)) = e :: preE at' (l.drop (i + 1)) := by unfold preE; rw [List.takeWhile_cons, if_pos (decide_eq_true ha')]
  rw [e1]
  rcases rcome_ev ok mk (T0 := T) (by omega) mode s us e hu hon hU with ⟨c1, c, c2⟩ | ⟨mode', s', told', c1, c2, c3, us', c4, c5, c6⟩
  ·exact .inl ⟨by simp only [playM, c1], yes ha' (Ev.bind c2 (Ev.yes rfl (Ev.now _)))⟩
  ·have e2 : playM w (e :: preE at' (l.drop (i + 1))) mode s T = playM w (preE at' (l.drop (i + 1))) mode' s' (T ++ told') := by simp only [playM, c1]
   rw [e2]
   rcases ih (i + 1) mode' s' us' (T ++ told') (by omega) c4 c3 (by rw [List.length_append]; omega) c5 with ⟨k1, k2⟩ | ⟨a, b, t, us2, k1, k2, k3, k4⟩
   ·exact .inl ⟨k1, yes ha' (Ev.bind c6 (Ev.no (by simp) k2))⟩
   ·exact .inr ⟨a, b, t, us2, k1, k2, k3, yes ha' (Ev.bind c6 (Ev.no (by simp) k4))⟩
end
def upR (w : DWatch) (l : List DEvent) (at' c e : Int) : Int := firstN [c, e, if 0 ≤ at' ∧ at' ≤ 1000000000000 then 0 else 1]
theorem upto_twin (w : DWatch) (l : List DEvent) (at' : Int) {c e : Int} (p1 : Ev (fun k => monitor_CheckWatch.f k w) (c, ())) (p2 : Ev (fun k => perigeeref8_CheckWatch.f k w) (c, ())) (e1 : Ev (fun k => monitor_CheckEvents.f k l) (e, ())) (e2 : Ev (fun k => perigeeref8_CheckEvents.f k l) (e, ())) (ok : c = 0 → RulesOk w ∧ ModesOk w) (hl : e = 0 → EvOk l) :
 (∃ x : Int, x ≠ 0 ∧ (upR w l at' c e = 0 → x = 17 ∧ playM w (preE at' l) w.2.2.1 (ou0 w) [] = none) ∧ Ev (fun k => monitor_upTo.f k w l at') (none, (x, ())) ∧ Ev (fun k => perigeeref8_upTo.f k w l at') (none, (x, ()))) ∨
 ∃ mode s T to ru um us, playM w (preE at' l) w.2.2.1 (ou0 w) [] = some (mode, (s, T)) ∧ UM um s.2 ∧ UL us s.2 ∧ us.length ≤ 1000000000 ∧ Ev (fun k => monitor_upTo.f k w l at') (some (plr w mode to ru s.1 um), (0, ())) ∧ Ev (fun k => perigeeref8_upTo.f k w l at') (some (cft w mode s.1 us T), (0, ())) := by
 by_cases h0 : upR w l at' c e = 0
 case neg =>
  refine .inl ⟨upR w l at' c e, h0, fun h => absurd h h0, ?_, ?_⟩
  ·refine Ev.eq (fun k => monitor_upTo.f_eq _ _ _ _) (Ev.bind p1 (Ev.bind e1 ?_))
   simp only [range_ev, Option.bind_some]
   exact Ev.bind (first_ev [c, e, if 0 ≤ at' ∧ at' ≤ 1000000000000 then 0 else 1] (by simp)) (Ev.yes (by simpa [upR] using h0) (Ev.now _))
  ·refine Ev.eq (fun k => perigeeref8_upTo.f_eq _ _ _ _) (Ev.bind p2 ?_)
   by_cases hc : c = 0
   case neg =>
    rw [show upR w l at' c e = c by simp [upR, firstN, hc]]
    exact Ev.yes (by simpa using hc) (Ev.now _)
   refine Ev.no (by simp [hc]) (Ev.bind e2 ?_)
   by_cases he : e = 0
   case neg =>
    rw [show upR w l at' c e = e by simp [upR, firstN, hc, he]]
    exact Ev.yes (by simpa using he) (Ev.now _)
   refine Ev.no (by simp [he]) ?_
   simp only [rwithin, Option.bind_some]
   by_cases ha : 0 ≤ at' ∧ at' ≤ 1000000000000
   ·exact absurd (by simp [upR, firstN, hc, he, ha]) h0
   ·rw [show upR w l at' c e = 1 by simp only [upR, if_neg ha]; simp [firstN, hc, he]]
    exact Ev.yes (by simp only [decide_eq_false ha]; rfl) (Ev.now _)
 have hz := firstN_zero.1 h0
 have hc : c = 0 := hz c (by simp)
 have he : e = 0 := hz e (by simp)
 have ha : 0 ≤ at' ∧ at' ≤ 1000000000000 := by
  have := hz (if 0 ≤ at' ∧ at' ≤ 1000000000000 then 0 else 1) (by simp)
  exact Classical.byContradiction fun h => by rw [if_neg h] at this; cases this
 obtain ⟨rk, mk⟩ := ok hc
 have ll := (hl he).1
 obtain ⟨to, ru, n1, n2, n3⟩ := newPlayer_ev w mk.cl rk.rl
 have pre : ∀ {r}, Ev (fun k => monitor_upTo.c0 k at' w.2.2.1 to ru w.1 w.2.1 w.2.2.1 w.2.2.2 (ou0 w).1 [] l (l.length : Int) ((0 : Nat) : Int)) r → Ev (fun k => monitor_upTo.f k w l at') r := fun {r} h => by
  refine Ev.eq (fun k => monitor_upTo.f_eq _ _ _ _) (Ev.bind p1 (Ev.bind e1 ?_))
  simp only [range_ev, Option.bind_some]
  exact Ev.bind (first_ev [c, e, if 0 ≤ at' ∧ at' ≤ 1000000000000 then 0 else 1] (by simp)) (Ev.no (by rw [show firstN [c, e, if 0 ≤ at' ∧ at' ≤ 1000000000000 then 0 else 1] = 0 from h0]; simp) (Ev.bind n3 (Ev.yes rfl h)))
 have rpre : ∀ {r}, Ev (fun k => perigeeref8_upTo.c0 k l at' w.1 w.2.1 w.2.2.1 w.2.2.2 w.2.2.1 (ou0 w).1 [] [] ((0 : Nat) : Int)) r → Ev (fun k => perigeeref8_upTo.f k w l at') r := fun {r} h => by
  refine Ev.eq (fun k => perigeeref8_upTo.f_eq _ _ _ _) (Ev.bind p2 (Ev.no (by simp [hc]) (Ev.bind e2 (Ev.no (by simp [he]) ?_))))
  simp only [rwithin, Option.bind_some]
  exact Ev.no (by simp only [decide_eq_true ha]; simp) (Ev.bind (newCraft_ev w rk.rl) (Ev.yes rfl h))
 have a1 := pupto_loop rk n1 n2 at' l ll l.length 0 w.2.2.1 (ou0 w) [] [] (by omega) um0 (by simp [ou0])
 have a2 := rupto_loop rk mk at' l ll l.length 0 w.2.2.1 (ou0 w) [] [] (by omega) ul0 (by simp [ou0]) (by simp) (by simp)
 rw [List.drop_zero] at a1 a2
 rcases a1 with ⟨a3, a4⟩ | ⟨mode, s, T, um, a3, a4, a5⟩
 ·rcases a2 with ⟨b3, b4⟩ | ⟨_, _, _, _, b3, _⟩
  ·exact .inl ⟨17, by decide, fun _ => ⟨rfl, a3⟩, pre a4, rpre b4⟩
  ·rw [a3] at b3; cases b3
 ·rcases a2 with ⟨b3, b4⟩ | ⟨mode', s', T', us, b3, b4, b5, b6⟩
  ·rw [a3] at b3; cases b3
  ·rw [a3] at b3
   cases b3
   exact .inr ⟨mode, s, T, to, ru, um, us, a3, a4, b4, b5, pre a5, rpre b6⟩
end Go.Proofs.Ytadhpgecilhgnaa.Pure

-- YtadhpgecilhgnaaQ50
set_option linter.unusedVariables false
set_option linter.unusedSimpArgs false
namespace Go.Proofs.Ytadhpgecilhgnaa.Pure
open Go Go.Proofs.Ytadhpgecilhgnaa.A
section
variable {w : DWatch} {at' : Int} (G Q : S → Prop)
def Tell (w : DWatch) (t : DFired) : Prop := G t.2.2.1 ∧ Q t.2.1 ∧ (t.2.2.2 = [] ∨ ∃ i, i < nRu w ∧ (rul w i).1 = t.2.2.2 ∧ (rul w i).2.1 = t.2.1)
variable {G Q}
theorem rules_tell {ev mode : S} (hq : ∀ i, i < nRu w → (rul w i).2.1 = ev → ∀ x ∈ raiM (rul w i).2.2.2.2, Q x) (g : G mode) (qe : Q ev) : ∀ (l : List Nat) (r : RS), (∀ i ∈ l, i < nRu w ∧ (rul w i).2.1 = ev) → (∀ t ∈ r.2.1, Tell G Q w t) → (∀ x ∈ r.2.2, Q x) →
 (∀ t ∈ (l.foldl (ruleM w at' ev mode) r).2.1, Tell G Q w t) ∧ ∀ x ∈ (l.foldl (ruleM w at' ev mode) r).2.2, Q x
 | [], r, _, h1, h2 => ⟨h1, h2⟩
 | i :: l, r, hl, h1, h2 => by
  rw [List.foldl_cons]
  refine rules_tell hq g qe l _ (fun j hj => hl j (by simp [hj])) (fun t ht => ?_) (fun x hx => ?_)
  ·rcases List.mem_append.1 (show t ∈ r.2.1 ++ [(at', (ev, (mode, (rul w i).1)))] from ht) with ht | ht
   ·exact h1 t ht
   ·simp only [List.mem_singleton] at ht
    subst ht
    exact ⟨g, qe, .inr ⟨i, (hl i (by simp)).1, rfl, (hl i (by simp)).2⟩⟩
  ·rcases List.mem_append.1 (show x ∈ r.2.2 ++ raiM (rul w i).2.2.2.2 from hx) with hx | hx
   ·exact h2 x hx
   ·exact hq i (hl i (by simp)).1 (hl i (by simp)).2 x hx
theorem fireM_mem {on : List Bool} {mode ev : S} {i : Nat} (h : i ∈ fireM w on mode ev) : i < nRu w ∧ (rul w i).2.1 = ev := by
 refine ⟨fireM_lt h, ?_⟩
 unfold fireM evR at h
 rw [List.mem_filter, List.mem_filter] at h
 simpa using h.1.2
theorem come_tell (ht : ∀ mode ev, G mode → Q ev → G (toM w.2.1 mode ev)) (hq : ∀ i, i < nRu w → Q (rul w i).2.1 → ∀ x ∈ raiM (rul w i).2.2.2.2, Q x) : ∀ (n : Nat) (mode : S) (s : OU) (told : List DFired) (q : List S), G mode → (∀ t ∈ told, Tell G Q w t) → (∀ x ∈ q, Q x) → ∀ r, comeM w at' n mode s told q = some r → G r.1 ∧ ∀ t ∈ r.2.2, Tell G Q w t
 | _, mode, s, told, [], g, h1, h2, r, e => by
  have : some (mode, (s, told)) = some r := by rw [← e]; unfold comeM; rfl
  cases this; exact ⟨g, h1⟩
 | 0, _, _, _, _ :: _, _, _, _, r, e => by cases e
 | n + 1, mode, s, told, ev :: q, g, h1, h2, r, e => by
  rw [comeM] at e
  split at e
  ·cases e
  ·next hb =>
   have qe : Q ev := h2 ev (by simp)
   obtain ⟨k1, k2⟩ := rules_tell (at' := at') (G := G) (Q := Q) (w := w) (ev := ev) (mode := mode) (fun i hi he => hq i hi (by rw [he]; exact qe)) g qe (fireM w s.1 mode ev) (s, (told ++ [(at', (ev, (mode, [])))], q)) (fun i hi => fireM_mem hi) (fun t ht => by
    rcases List.mem_append.1 (show t ∈ told ++ [(at', (ev, (mode, [])))] from ht) with ht | ht
    ·exact h1 t ht
    ·simp only [List.mem_singleton] at ht
     subst ht
     exact ⟨g, qe, .inl rfl⟩) (fun x hx => h2 x (by simp [show x ∈ q from hx]))
   exact come_tell ht hq n _ _ _ _ (ht mode ev g qe) k1 k2 r e
theorem play_tell (ht : ∀ mode ev, G mode → Q ev → G (toM w.2.1 mode ev)) (hq : ∀ i, i < nRu w → Q (rul w i).2.1 → ∀ x ∈ raiM (rul w i).2.2.2.2, Q x) : ∀ (l : List DEvent) (mode : S) (s : OU) (T : List DFired), G mode → (∀ t ∈ T, Tell G Q w t) → (∀ x ∈ l, Q x.2) → ∀ r, playM w l mode s T = some r → G r.1 ∧ ∀ t ∈ r.2.2, Tell G Q w t
 | [], mode, s, T, g, h1, _, r, h => by cases h; exact ⟨g, h1⟩
 | e :: l, mode, s, T, g, h1, h2, r, h => by
  simp only [playM] at h
  cases hc : comeM w e.1 10001 mode s [] [e.2] with
  | none => rw [hc] at h; cases h
  | some q =>
   rw [hc] at h
   obtain ⟨k1, k2⟩ := come_tell (at' := e.1) (G := G) (Q := Q) ht hq 10001 mode s [] [e.2] g (by simp) (by simpa using h2 e (by simp)) _ hc
   exact play_tell ht hq l _ _ _ k1 (fun t ht => (List.mem_append.1 ht).elim (h1 t) (k2 t)) (fun x hx => h2 x (by simp [hx])) r h
theorem toO_mem {C : List DModeChange} {mode ev x : S} (h : toO C mode ev none = some x) : ∃ c ∈ C, c.1 = mode ∧ c.2.1 = ev ∧ c.2.2 = x := by
 have gen : ∀ (C : List DModeChange) (z : Option S), toO C mode ev z = some x → z = some x ∨ ∃ c ∈ C, c.1 = mode ∧ c.2.1 = ev ∧ c.2.2 = x := by
  intro C
  induction C with
  | nil => intro z h; exact .inl h
  | cons c C ih =>
   intro z h
   rcases ih _ (show toO C mode ev (if c.1 = mode ∧ c.2.1 = ev then some c.2.2 else z) = some x from h) with h' | ⟨d, hd, k⟩
   ·split at h'
    ·next hc => cases h'; exact .inr ⟨c, by simp, hc.1, hc.2, rfl⟩
    ·exact .inl h'
   ·exact .inr ⟨d, by simp [hd], k⟩
 exact (gen C none h).resolve_left (by simp)
theorem toM_ok {C : List DModeChange} {M : List S} {fr : S} (hc : ∀ c ∈ C, c.2.2 ∈ M) (mode ev : S) (g : mode ∈ M ∧ ∃ n, Wi C fr n mode) : toM C mode ev ∈ M ∧ ∃ n, Wi C fr n (toM C mode ev) := by
 unfold toM
 cases h : toO C mode ev none with
 | none => exact g
 | some x =>
  obtain ⟨c, c1, c2, c3, c4⟩ := toO_mem h
  obtain ⟨n, hn⟩ := g.2
  exact ⟨c4 ▸ hc c c1, n + 1, .inr ⟨c, c1, by rw [c2]; exact hn, c4⟩⟩
end
end Go.Proofs.Ytadhpgecilhgnaa.Pure

-- YtadhpgecilhgnaaPureWatchesModesAreReached
set_option linter.unusedVariables false
set_option linter.unusedSimpArgs false
namespace Go.Proofs.Ytadhpgecilhgnaa.Pure
open Go Go.Proofs.Ytadhpgecilhgnaa.A
theorem preE_all {l : List DEvent} (h : EvOk l) : preE 1000000000000 l = l := by
 unfold preE
 have gen : ∀ l : List DEvent, (∀ x ∈ l, x.1 ≤ 1000000000000) → l.takeWhile (fun e => decide (e.1 ≤ 1000000000000)) = l := by
  intro l
  induction l with
  | nil => intro _; rfl
  | cons x l ih =>
   intro h
   rw [List.takeWhile_cons, if_pos (decide_eq_true (h x (by simp))), ih fun y hy => h y (by simp [hy])]
 refine gen l fun x hx => ?_
 obtain ⟨i, hi, e⟩ := List.getElem_of_mem hx
 have := (h.2 i hi).1.2
 rw [getD_nat _ _ _ hi, e] at this
 exact this
open Classical in
theorem WatchesModesAreReached (w : DWatch) (l : List DEvent) (h0 : okT YWatch w) (h1 : okT (.sl YEvent) l) : ∃ n, perigeelaw8_WatchesModesAreReached.f n w l = some (true, ()) := by
 refine Ev.rounds (g := fun k => perigeelaw8_WatchesModesAreReached.f k w l) ?_
 obtain ⟨c, e, r, q1, q2, e1, e2, ok, ek, hr, hl, r1, r2⟩ := plays w l h0 h1
 refine Ev.eq (fun k => perigeelaw8_WatchesModesAreReached.f_eq _ _ _) (Ev.bind r1 ?_)
 by_cases hz : r.2.1 = 0
 case neg =>
  refine Ev.yes (by simp [hz]) (Ev.yes ?_ (Ev.bind awake_ev (Ev.now _)))
  rw [hr]
  by_cases hf : firstN [c, e] = 0
  ·rw [if_pos hf] at hr ⊢
   cases hp : playM w l w.2.2.1 (ou0 w) [] with
   | none => rfl
   | some p => rw [hp] at hr; exact absurd (by rw [hr]; rfl) hz
  ·rw [if_neg hf]; rfl
 refine Ev.no (by simp [hz]) ?_
 have hf : firstN [c, e] = 0 := Classical.byContradiction fun hf => by
  rw [if_neg hf] at hr
  exact hf (by rw [hr] at hz; exact hz)
 have hzz := firstN_zero.1 hf
 have hc : c = 0 := hzz c (by simp)
 have he : e = 0 := hzz e (by simp)
 obtain ⟨rk, mk⟩ := ok hc
 have hev := ek.1 he
 rw [if_pos hf] at hr
 cases hp : playM w l w.2.2.1 (ou0 w) [] with
 | none => rw [hp] at hr; exact absurd hz (by rw [hr]; decide)
 | some p =>
  obtain ⟨mode, s, T⟩ := p
  rw [hp] at hr
  have hr : r = (T, (0, ())) := hr
  subst hr
  have m := reached_ev w w.2.2.1 q1 hc mk mk.md
  generalize hR : (w.1.filter fun m => decide (∃ n, Wi w.2.1 w.2.2.1 n m)) = R at m
  have Rl : R.length ≤ 50 := by rw [← hR]; exact Nat.le_trans (List.length_filter_le _ _) mk.ml
  have mR : ∀ x, (x ∈ w.1 ∧ ∃ n, Wi w.2.1 w.2.2.1 n x) → x ∈ R := fun x hx => by rw [← hR, List.mem_filter]; exact ⟨hx.1, decide_eq_true hx.2⟩
  obtain ⟨k1, k2⟩ := play_tell (w := w) (G := fun m => m ∈ w.1 ∧ ∃ n, Wi w.2.1 w.2.2.1 n m) (Q := fun _ => True) (fun mode ev g _ => toM_ok (fun c hc => (mk.ch c hc).2) mode ev g) (fun _ _ _ _ _ => trivial) l w.2.2.1 (ou0 w) [] ⟨mk.md, 0, rfl⟩ (by simp) (fun _ _ => trivial) _ hp
  have hmode : Ev (fun k => monitor_ModeAt.f k w l 1000000000000) (mode, (0, ())) := by
   rcases upto_twin w l 1000000000000 q1 q2 e1 e2 ok ek.1 with ⟨x, x0, x1, _⟩ | ⟨mode', s', T', to, ru, um, us, k0, _, _, _, u1, _⟩
   ·have := (x1 (firstN_zero.2 (by simp [hc, he]))).2
    rw [preE_all hev, hp] at this
    cases this
   ·rw [preE_all hev, hp] at k0
    cases k0
    exact Ev.eq (fun k => monitor_ModeAt.f_eq _ _ _ _) (Ev.bind u1 (Ev.yes rfl (Ev.no (by simp) (Ev.now _))))
  have fin : ∀ (d i : Nat), i + d = T.length → Ev (fun k => perigeelaw8_WatchesModesAreReached.c1 k T R (i : Int)) (true, ()) := by
   intro d
   induction d with
   | zero => intro i hi; exact Ev.step (fun k => perigeelaw8_WatchesModesAreReached.c1_eq _ _ _ _) (Ev.no (by simp; omega) (Ev.bind awake_ev (Ev.now _)))
   | succ d ih =>
    intro i hi
    have hil : i < T.length := by omega
    have hl' : T.length ≤ 50000000 := hl
    have hw : IntKind.wrap .i64 ((i : Int) + 1) = ((i + 1 : Nat) : Int) := by rw [w64 (by omega) (by omega)]; omega
    refine Ev.step (fun k => perigeelaw8_WatchesModesAreReached.c1_eq _ _ _ _) (Ev.yes (decide_eq_true (by omega)) (Ev.yes (by omega) ?_))
    rw [hw, Int.toNat_natCast, getD_nat _ _ _ hil]
    have := mR _ (k2 T[i] (List.getElem_mem hil)).1
    exact Ev.bind (contains_ev R _ (by omega)) (Ev.no (by simp [this]) (ih (i + 1) (by omega)))
  refine Ev.bind m (Ev.bind hmode (Ev.no (by simp) (Ev.no (by simp) (Ev.bind (contains_ev R mode (by omega)) (Ev.no (by simp [mR mode k1]) ?_)))))
  exact Ev.step (fun k => perigeelaw8_WatchesModesAreReached.c0_eq _ _ _) (fin T.length 0 (by omega))
end Go.Proofs.Ytadhpgecilhgnaa.Pure
