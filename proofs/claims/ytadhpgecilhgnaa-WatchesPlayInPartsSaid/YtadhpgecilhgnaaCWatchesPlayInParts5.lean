/- what the first events make is the beginning of what all make -/
import Derived.Test.YtadhpgecilhgnaaCWatchesPlayInParts4
-- YtadhpgecilhgnaaQ47
set_option linter.unusedVariables false
set_option linter.unusedSimpArgs false
namespace Go.Proofs.Ytadhpgecilhgnaa.Pure
open Go Go.Proofs.Ytadhpgecilhgnaa.A
def playM (w : DWatch) : List DEvent → S → OU → List DFired → Option (S × OU × List DFired)
 | [], mode, s, T => some (mode, (s, T))
 | e :: l, mode, s, T => match comeM w e.1 10001 mode s [] [e.2] with
  | none => none
  | some (mode', (s', told)) => playM w l mode' s' (T ++ told)
def ou0 (w : DWatch) : OU := (List.replicate (nRu w) true, fun _ => false)
def resP : Option (S × OU × List DFired) → List DFired × Int × Unit
 | none => ([], (17, ()))
 | some (_, (_, T)) => (T, (0, ()))
def EvG (l : List DEvent) (i : Nat) : Prop := (0 ≤ (l.getD i (Ty.dflt YEvent)).1 ∧ (l.getD i (Ty.dflt YEvent)).1 ≤ 1000000000000) ∧ isNm (l.getD i (Ty.dflt YEvent)).2 = true ∧ (i ≠ 0 → ¬ (l.getD i (Ty.dflt YEvent)).1 < (l.getD (i - 1) (Ty.dflt YEvent)).1)
def EvOk (l : List DEvent) : Prop := l.length ≤ 5000 ∧ ∀ i, i < l.length → EvG l i
theorem evg_step {l : List DEvent} {i : Nat} (hi : i < l.length) : (∀ j, i ≤ j → j < l.length → EvG l j) ↔ EvG l i ∧ ∀ j, i + 1 ≤ j → j < l.length → EvG l j :=
 ⟨fun h => ⟨h i (Nat.le_refl _) hi, fun j h1 h2 => h j (by omega) h2⟩, fun h j h1 h2 => by
  by_cases e : j = i
  ·exact e ▸ h.1
  ·exact h.2 j (by omega) h2⟩
theorem events_twin (l : List DEvent) (h1 : okT (.sl YEvent) l) : ∃ c : Int, Ev (fun k => monitor_CheckEvents.f k l) (c, ()) ∧ Ev (fun k => perigeeref8_CheckEvents.f k l) (c, ()) ∧ (c = 0 ↔ EvOk l) := by
 by_cases hl : 5000 < l.length
 ·exact ⟨2, Ev.eq (fun k => monitor_CheckEvents.f_eq _ _) (Ev.yes (decide_eq_true (by omega)) (Ev.now _)), Ev.eq (fun k => perigeeref8_CheckEvents.f_eq _ _) (Ev.yes (decide_eq_true (by omega)) (Ev.now _)), ⟨fun h => absurd h (by decide), fun h => absurd h.1 (by omega)⟩⟩
 have loop : ∀ (d i : Nat), i + d = l.length → ∃ c : Int, Ev (fun k => monitor_CheckEvents.c0 k l l (l.length : Int) (i : Int)) (c, ()) ∧ Ev (fun k => perigeeref8_CheckEvents.c0 k l (i : Int)) (c, ()) ∧ (c = 0 ↔ ∀ j, i ≤ j → j < l.length → EvG l j) := by
  intro d
  induction d with
  | zero =>
   intro i hi
   exact ⟨0, Ev.step (fun k => monitor_CheckEvents.c0_eq _ _ _ _ _) (Ev.no (by simp; omega) (Ev.now _)), Ev.step (fun k => perigeeref8_CheckEvents.c0_eq _ _ _) (Ev.no (by simp; omega) (Ev.now _)), fun _ j _ _ => by omega, fun _ => rfl⟩
  | succ d ih =>
   intro i hi
   have hil : i < l.length := by omega
   have hw : IntKind.wrap .i64 ((i : Int) + 1) = ((i + 1 : Nat) : Int) := by rw [w64 (by omega) (by omega)]; omega
   have hx := h1.2.2 _ (getD_mem (z := Ty.dflt YEvent) hil)
   have hG : EvG l i ↔ (0 ≤ (l.getD i (Ty.dflt YEvent)).1 ∧ (l.getD i (Ty.dflt YEvent)).1 ≤ 1000000000000) ∧ isNm (l.getD i (Ty.dflt YEvent)).2 = true ∧ (i ≠ 0 → ¬ (l.getD i (Ty.dflt YEvent)).1 < (l.getD (i - 1) (Ty.dflt YEvent)).1) := Iff.rfl
   rw [evg_step hil]
   generalize hcc : l.getD i (Ty.dflt YEvent) = x at hx hG
   obtain ⟨n1, _⟩ := name_ev x.2 hx.2
   have n2 := rname_ev x.2 hx.2
   by_cases a1 : (0 : Int) ≤ x.1 ∧ x.1 ≤ 1000000000000
   case neg =>
    refine ⟨1, Ev.step (fun k => monitor_CheckEvents.c0_eq _ _ _ _ _) (Ev.yes (decide_eq_true (by omega)) (Ev.yes (by omega) ?_)), Ev.step (fun k => perigeeref8_CheckEvents.c0_eq _ _ _) (Ev.yes (decide_eq_true (by omega)) (Ev.yes (by omega) ?_)), ⟨fun h => absurd h (by decide), fun h => absurd (hG.1 h.1).1 a1⟩⟩
    ·simp only [Int.toNat_natCast, hcc, in_ev, Option.bind_some]
     exact Ev.yes (by simp only [decide_eq_false a1]; rfl) (Ev.now _)
    ·simp only [Int.toNat_natCast, hcc, rwithin, Option.bind_some]
     exact Ev.yes (by simp only [decide_eq_false a1]; rfl) (Ev.now _)
   by_cases a2 : isNm x.2 = true
   case neg =>
    refine ⟨5, Ev.step (fun k => monitor_CheckEvents.c0_eq _ _ _ _ _) (Ev.yes (decide_eq_true (by omega)) (Ev.yes (by omega) ?_)), Ev.step (fun k => perigeeref8_CheckEvents.c0_eq _ _ _) (Ev.yes (decide_eq_true (by omega)) (Ev.yes (by omega) ?_)), ⟨fun h => absurd h (by decide), fun h => absurd (hG.1 h.1).2.1 a2⟩⟩
    ·simp only [Int.toNat_natCast, hcc, in_ev, Option.bind_some]
     exact Ev.no (by simp only [decide_eq_true a1]; simp) (Ev.bind n1 (Ev.yes (by simpa using a2) (Ev.now _)))
    ·simp only [Int.toNat_natCast, hcc, rwithin, Option.bind_some]
     exact Ev.no (by simp only [decide_eq_true a1]; simp) (Ev.yes (by omega) (Ev.bind n2 (Ev.yes (by simpa using a2) (Ev.now _))))
   obtain ⟨c, c1, c2, c3⟩ := ih (i + 1) (by omega)
   by_cases i0 : i = 0
   ·refine ⟨c, Ev.step (fun k => monitor_CheckEvents.c0_eq _ _ _ _ _) (Ev.yes (decide_eq_true (by omega)) (Ev.yes (by omega) ?_)), Ev.step (fun k => perigeeref8_CheckEvents.c0_eq _ _ _) (Ev.yes (decide_eq_true (by omega)) (Ev.yes (by omega) ?_)), c3.trans ⟨fun h => ⟨hG.2 ⟨a1, a2, fun e => absurd i0 e⟩, h⟩, fun h => h.2⟩⟩
    ·simp only [Int.toNat_natCast, hcc, in_ev, Option.bind_some, hw]
     exact Ev.no (by simp only [decide_eq_true a1]; simp) (Ev.bind n1 (Ev.no (by simp [a2]) (Ev.no (by simp [i0]) c1)))
    ·simp only [Int.toNat_natCast, hcc, rwithin, Option.bind_some, hw]
     exact Ev.no (by simp only [decide_eq_true a1]; simp) (Ev.yes (by omega) (Ev.bind n2 (Ev.no (by simp [a2]) (Ev.no (by simp [i0]) c2))))
   have hp := wpred i0 (by omega)
   by_cases l1 : x.1 < (l.getD (i - 1) (Ty.dflt YEvent)).1
   ·refine ⟨8, Ev.step (fun k => monitor_CheckEvents.c0_eq _ _ _ _ _) (Ev.yes (decide_eq_true (by omega)) (Ev.yes (by omega) ?_)), Ev.step (fun k => perigeeref8_CheckEvents.c0_eq _ _ _) (Ev.yes (decide_eq_true (by omega)) (Ev.yes (by omega) ?_)), ⟨fun h => absurd h (by decide), fun h => absurd l1 ((hG.1 h.1).2.2 i0)⟩⟩
    ·simp only [Int.toNat_natCast, hcc, in_ev, Option.bind_some, hw, hp]
     exact Ev.no (by simp only [decide_eq_true a1]; simp) (Ev.bind n1 (Ev.no (by simp [a2]) (Ev.yes (decide_eq_true (by omega)) (Ev.yes (by omega) (Ev.yes (decide_eq_true l1) (Ev.now _))))))
    ·simp only [Int.toNat_natCast, hcc, rwithin, Option.bind_some, hw, hp]
     exact Ev.no (by simp only [decide_eq_true a1]; simp) (Ev.yes (by omega) (Ev.bind n2 (Ev.no (by simp [a2]) (Ev.yes (decide_eq_true (by omega)) (Ev.yes (by omega) (Ev.yes (by omega) (Ev.yes (decide_eq_true l1) (Ev.now _))))))))
   ·refine ⟨c, Ev.step (fun k => monitor_CheckEvents.c0_eq _ _ _ _ _) (Ev.yes (decide_eq_true (by omega)) (Ev.yes (by omega) ?_)), Ev.step (fun k => perigeeref8_CheckEvents.c0_eq _ _ _) (Ev.yes (decide_eq_true (by omega)) (Ev.yes (by omega) ?_)), c3.trans ⟨fun h => ⟨hG.2 ⟨a1, a2, fun _ => l1⟩, h⟩, fun h => h.2⟩⟩
    ·simp only [Int.toNat_natCast, hcc, in_ev, Option.bind_some, hw, hp]
     exact Ev.no (by simp only [decide_eq_true a1]; simp) (Ev.bind n1 (Ev.no (by simp [a2]) (Ev.yes (decide_eq_true (by omega)) (Ev.yes (by omega) (Ev.no (fun h => l1 (of_decide_eq_true h)) c1)))))
    ·simp only [Int.toNat_natCast, hcc, rwithin, Option.bind_some, hw, hp]
     exact Ev.no (by simp only [decide_eq_true a1]; simp) (Ev.yes (by omega) (Ev.bind n2 (Ev.no (by simp [a2]) (Ev.yes (decide_eq_true (by omega)) (Ev.yes (by omega) (Ev.yes (by omega) (Ev.no (fun h => l1 (of_decide_eq_true h)) c2)))))))
 obtain ⟨c, c1, c2, c3⟩ := loop l.length 0 (by omega)
 exact ⟨c, Ev.eq (fun k => monitor_CheckEvents.f_eq _ _) (Ev.no (fun h => hl (by have := of_decide_eq_true h; omega)) c1), Ev.eq (fun k => perigeeref8_CheckEvents.f_eq _ _) (Ev.no (fun h => hl (by have := of_decide_eq_true h; omega)) c2), c3.trans ⟨fun h => ⟨by omega, fun i hi => h i (by omega) hi⟩, fun h i _ hi => h.2 i hi⟩⟩
section
variable {w : DWatch} {to : List ((S × S) × S)} {ru : List (S × List Int)}
theorem pplay_loop (ok : RulesOk w) (hto : PTo w.2.1 to) (hru : PRu w (nRu w) ru) (l : List DEvent) (hl : l.length ≤ 5000) : ∀ (d i : Nat) (mode : S) (s : OU) (um : List (S × Bool)) (T : List DFired), i + d = l.length → UM um s.2 → s.1.length = nRu w → T.length ≤ 10000 * i →
 Ev (fun k => monitor_Play.c0 k mode to ru w.1 w.2.1 w.2.2.1 w.2.2.2 s.1 um T l (l.length : Int) (i : Int)) (resP (playM w (l.drop i) mode s T)) := by
 intro d
 induction d with
 | zero =>
  intro i mode s um T hi hum hon hT
  rw [List.drop_of_length_le (by omega)]
  exact Ev.step (fun k => monitor_Play.c0_eq _ _ _ _ _ _ _ _ _ _ _ _ _ _) (Ev.no (by simp; omega) (Ev.now _))
 | succ d ih =>
  intro i mode s um T hi hum hon hT
  have hil : i < l.length := by omega
  have hw : IntKind.wrap .i64 ((i : Int) + 1) = ((i + 1 : Nat) : Int) := by rw [w64 (by omega) (by omega)]; omega
  have hg : l.getD i (Ty.dflt YEvent) = l[i] := getD_nat _ _ _ hil
  rw [List.drop_eq_getElem_cons hil]
  generalize l[i] = e at hg
  refine Ev.step (fun k => monitor_Play.c0_eq _ _ _ _ _ _ _ _ _ _ _ _ _ _) (Ev.yes (decide_eq_true (by omega)) (Ev.yes (by omega) ?_))
  simp only [Int.toNat_natCast, hg, hw]
  rcases pcome_ev ok hto hru mode s um e hum hon with ⟨c1, p, c2⟩ | ⟨mode', s', told', c1, c2, c3, um', c4, c5⟩
  ·have : playM w (e :: l.drop (i + 1)) mode s T = none := by simp only [playM, c1]
   rw [this]
   exact Ev.bind c2 (Ev.yes rfl (Ev.now _))
  ·have : playM w (e :: l.drop (i + 1)) mode s T = playM w (l.drop (i + 1)) mode' s' (T ++ told') := by simp only [playM, c1]
   rw [this]
   exact Ev.bind c5 (Ev.no (by simp) (Ev.yes (by simp only; omega) (ih (i + 1) mode' s' um' (T ++ told') (by omega) c4 c3 (by rw [List.length_append]; omega))))
theorem rplay_loop (ok : RulesOk w) (mk : ModesOk w) (l : List DEvent) (hl : l.length ≤ 5000) : ∀ (d i : Nat) (mode : S) (s : OU) (us : List S) (T : List DFired), i + d = l.length → UL us s.2 → s.1.length = nRu w → T.length ≤ 10000 * i → us.length ≤ 10 * T.length →
 Ev (fun k => perigeeref8_Play.c0 k l w.1 w.2.1 w.2.2.1 w.2.2.2 mode s.1 us T (i : Int)) (resP (playM w (l.drop i) mode s T)) := by
 intro d
 induction d with
 | zero =>
  intro i mode s us T hi hu hon hT hU
  rw [List.drop_of_length_le (by omega)]
  exact Ev.step (fun k => perigeeref8_Play.c0_eq _ _ _ _ _ _ _ _ _ _ _) (Ev.no (by simp; omega) (Ev.now _))
 | succ d ih =>
  intro i mode s us T hi hu hon hT hU
  have hil : i < l.length := by omega
  have hw : IntKind.wrap .i64 ((i : Int) + 1) = ((i + 1 : Nat) : Int) := by rw [w64 (by omega) (by omega)]; omega
  have hg : l.getD i (Ty.dflt YEvent) = l[i] := getD_nat _ _ _ hil
  rw [List.drop_eq_getElem_cons hil]
  generalize l[i] = e at hg
  refine Ev.step (fun k => perigeeref8_Play.c0_eq _ _ _ _ _ _ _ _ _ _ _) (Ev.yes (decide_eq_true (by omega)) (Ev.yes (by omega) ?_))
  simp only [Int.toNat_natCast, hg, hw]
  rcases rcome_ev ok mk (by omega) mode s us e hu hon hU with ⟨c1, c, c2⟩ | ⟨mode', s', told', c1, c2, c3, us', c4, c5, c6⟩
  ·have : playM w (e :: l.drop (i + 1)) mode s T = none := by simp only [playM, c1]
   rw [this]
   exact Ev.bind c2 (Ev.yes rfl (Ev.now _))
  ·have : playM w (e :: l.drop (i + 1)) mode s T = playM w (l.drop (i + 1)) mode' s' (T ++ told') := by simp only [playM, c1]
   rw [this]
   exact Ev.bind c6 (Ev.no (by simp) (ih (i + 1) mode' s' us' (T ++ told') (by omega) c4 c3 (by rw [List.length_append]; omega) c5))
theorem um0 : UM [] (fun _ => false) := ⟨fun u => rfl, by simp⟩
theorem ul0 : UL [] (fun _ => false) := ⟨List.Pairwise.nil, fun u => by simp⟩
theorem pplay_ev (l : List DEvent) {c e : Int} (h1 : Ev (fun k => monitor_CheckWatch.f k w) (c, ())) (h3 : Ev (fun k => monitor_CheckEvents.f k l) (e, ())) (ok : c = 0 → RulesOk w ∧ ModesOk w) (hl : e = 0 → EvOk l) :
 Ev (fun k => monitor_Play.f k w l) (if firstN [c, e] = 0 then resP (playM w l w.2.2.1 (ou0 w) []) else ([], (firstN [c, e], ()))) := by
 refine Ev.eq (fun k => monitor_Play.f_eq _ _ _) (Ev.bind h1 (Ev.bind h3 (Ev.bind (first_ev [c, e] (by simp)) ?_)))
 by_cases h0 : firstN [c, e] = 0
 ·rw [if_pos h0]
  have hz := firstN_zero.1 h0
  have hc : c = 0 := hz c (by simp)
  have he : e = 0 := hz e (by simp)
  obtain ⟨rk, mk⟩ := ok hc
  obtain ⟨to, ru, n1, n2, n3⟩ := newPlayer_ev w mk.cl rk.rl
  refine Ev.no (by simp [h0]) (Ev.bind n3 (Ev.yes rfl ?_))
  exact pplay_loop rk n1 n2 l (hl he).1 l.length 0 w.2.2.1 (ou0 w) [] [] (by omega) um0 (by simp [ou0]) (by simp)
 ·rw [if_neg h0]
  exact Ev.yes (by simpa using h0) (Ev.now _)
theorem rplay_ev (l : List DEvent) {c e : Int} (h1 : Ev (fun k => perigeeref8_CheckWatch.f k w) (c, ())) (h3 : Ev (fun k => perigeeref8_CheckEvents.f k l) (e, ())) (ok : c = 0 → RulesOk w ∧ ModesOk w) (hl : e = 0 → EvOk l) :
 Ev (fun k => perigeeref8_Play.f k w l) (if firstN [c, e] = 0 then resP (playM w l w.2.2.1 (ou0 w) []) else ([], (firstN [c, e], ()))) := by
 refine Ev.eq (fun k => perigeeref8_Play.f_eq _ _ _) (Ev.bind h1 ?_)
 by_cases hc : c = 0
 case neg =>
  have : firstN [c, e] = c := by simp [firstN, hc]
  rw [this, if_neg hc]
  exact Ev.yes (by simpa using hc) (Ev.now _)
 refine Ev.no (by simp [hc]) (Ev.bind h3 ?_)
 by_cases he : e = 0
 case neg =>
  have : firstN [c, e] = e := by simp [firstN, hc, he]
  rw [this, if_neg he]
  exact Ev.yes (by simpa using he) (Ev.now _)
 have : firstN [c, e] = 0 := by simp [firstN, hc, he]
 rw [if_pos this]
 obtain ⟨rk, mk⟩ := ok hc
 refine Ev.no (by simp [he]) (Ev.bind (newCraft_ev w rk.rl) (Ev.yes rfl ?_))
 exact rplay_loop rk mk l (hl he).1 l.length 0 w.2.2.1 (ou0 w) [] [] (by omega) ul0 (by simp [ou0]) (by simp) (by simp)
end
theorem comeM_len {w : DWatch} {at' : Int} : ∀ (n : Nat) (mode : S) (s : OU) (told : List DFired) (q : List S), told.length ≤ 10000 → ∀ r, comeM w at' n mode s told q = some r → r.2.2.length ≤ 10000
 | _, mode, s, told, [], h, r, e => by
  have : some (mode, (s, told)) = some r := by rw [← e]; unfold comeM; rfl
  cases this; exact h
 | 0, _, _, _, _ :: _, _, r, e => by cases e
 | n + 1, mode, s, told, ev :: q, h, r, e => by
  rw [comeM] at e
  split at e
  ·cases e
  ·next hb => exact comeM_len n _ _ _ _ (Nat.le_of_not_lt hb) r e
theorem playM_len {w : DWatch} : ∀ (l : List DEvent) (mode : S) (s : OU) (T : List DFired), ∀ r, playM w l mode s T = some r → r.2.2.length ≤ T.length + 10000 * l.length
 | [], mode, s, T, r, h => by cases h; simp
 | e :: l, mode, s, T, r, h => by
  simp only [playM] at h
  cases hc : comeM w e.1 10001 mode s [] [e.2] with
  | none => rw [hc] at h; cases h
  | some q =>
   obtain ⟨mode', s', told⟩ := q
   rw [hc] at h
   have h1 : told.length ≤ 10000 := comeM_len 10001 mode s [] [e.2] (by simp) _ hc
   have h2 := playM_len l mode' s' (T ++ told) r h
   rw [List.length_append] at h2
   rw [List.length_cons]
   omega
theorem playM_app {w : DWatch} : ∀ (l1 l2 : List DEvent) (mode : S) (s : OU) (T : List DFired), playM w (l1 ++ l2) mode s T = (playM w l1 mode s T).bind fun r => playM w l2 r.1 r.2.1 r.2.2
 | [], l2, mode, s, T => rfl
 | e :: l1, l2, mode, s, T => by
  simp only [List.cons_append, playM]
  cases hc : comeM w e.1 10001 mode s [] [e.2] with
  | none => rfl
  | some q => exact playM_app l1 l2 _ _ _
theorem playM_pre {w : DWatch} : ∀ (l : List DEvent) (mode : S) (s : OU) (T : List DFired), ∀ r, playM w l mode s T = some r → ∃ U, r.2.2 = T ++ U
 | [], mode, s, T, r, h => by cases h; exact ⟨[], by simp⟩
 | e :: l, mode, s, T, r, h => by
  simp only [playM] at h
  cases hc : comeM w e.1 10001 mode s [] [e.2] with
  | none => rw [hc] at h; cases h
  | some q =>
   rw [hc] at h
   obtain ⟨U, hU⟩ := playM_pre l _ _ _ r h
   exact ⟨q.2.2 ++ U, by rw [hU, List.append_assoc]⟩
theorem okEvents_take {l : List DEvent} (h : EvOk l) (n : Nat) : EvOk (l.take n) := by
 obtain ⟨h1, h2⟩ := h
 refine ⟨by rw [List.length_take]; omega, fun i hi => ?_⟩
 rw [List.length_take] at hi
 have g : ∀ j, j < n → (l.take n).getD j (Ty.dflt YEvent) = l.getD j (Ty.dflt YEvent) := fun j hj => by
  rw [List.getD_eq_getElem?_getD, List.getD_eq_getElem?_getD, List.getElem?_take_of_lt hj]
 have := h2 i (by omega)
 unfold EvG at this ⊢
 rw [g i (by omega), g (i - 1) (by omega)]
 exact this
theorem equalF_ev (l : List DFired) (hl : l.length ≤ 1000000000) : Ev (fun k => slices_Equal_apiFired.f k l l) (true, ()) := by
 have loop : ∀ (d i : Nat), i + d = l.length → Ev (fun k => slices_Equal_apiFired.c0 k l l (l.length : Int) (i : Int)) (true, ()) := by
  intro d
  induction d with
  | zero => intro i hi; exact Ev.step (fun k => slices_Equal_apiFired.c0_eq _ _ _ _ _) (Ev.no (by simp; omega) (Ev.now _))
  | succ d ih =>
   intro i hi
   have hw : IntKind.wrap .i64 ((i : Int) + 1) = ((i + 1 : Nat) : Int) := by rw [w64 (by omega) (by omega)]; omega
   refine Ev.step (fun k => slices_Equal_apiFired.c0_eq _ _ _ _ _) (Ev.yes (decide_eq_true (by omega)) (Ev.yes (by omega) (Ev.yes (by omega) ?_)))
   rw [hw, show eqV YFired (l.getD (i : Int).toNat (Ty.dflt YFired)) (l.getD (i : Int).toNat (Ty.dflt YFired)) = true from (eqV_iff (τ := YFired) rfl).2 rfl]
   exact Ev.no (by simp) (ih (i + 1) (by omega))
 exact Ev.eq (fun k => slices_Equal_apiFired.f_eq _ _ _) (Ev.no (by simp) (loop l.length 0 (by omega)))
end Go.Proofs.Ytadhpgecilhgnaa.Pure

-- YtadhpgecilhgnaaQ48
set_option linter.unusedVariables false
set_option linter.unusedSimpArgs false
namespace Go.Proofs.Ytadhpgecilhgnaa.Pure
open Go Go.Proofs.Ytadhpgecilhgnaa.A
theorem plays (w : DWatch) (l : List DEvent) (h0 : okT YWatch w) (h1 : okT (.sl YEvent) l) : ∃ (c e : Int) (r : List DFired × Int × Unit), Ev (fun k => monitor_CheckWatch.f k w) (c, ()) ∧ Ev (fun k => perigeeref8_CheckWatch.f k w) (c, ()) ∧ Ev (fun k => monitor_CheckEvents.f k l) (e, ()) ∧ Ev (fun k => perigeeref8_CheckEvents.f k l) (e, ()) ∧
 (c = 0 → RulesOk w ∧ ModesOk w) ∧ (e = 0 ↔ EvOk l) ∧ r = (if firstN [c, e] = 0 then resP (playM w l w.2.2.1 (ou0 w) []) else ([], (firstN [c, e], ()))) ∧ r.1.length ≤ 50000000 ∧ Ev (fun k => monitor_Play.f k w l) r ∧ Ev (fun k => perigeeref8_Play.f k w l) r := by
 obtain ⟨c, q1, q2⟩ := watch_twin w h0
 have ok : c = 0 → RulesOk w ∧ ModesOk w := fun hc => by
  obtain ⟨q, k1, k2⟩ := watch_ev w h0
  have e := k1.unique q1
  exact ⟨watch_rules w h0 q1 hc, k2 (by rw [e]; exact hc)⟩
 obtain ⟨e, e1, e2, e3⟩ := events_twin l h1
 refine ⟨c, e, _, q1, q2, e1, e2, ok, e3, rfl, ?_, pplay_ev l q1 e1 ok e3.1, rplay_ev l q2 e2 ok e3.1⟩
 by_cases h : firstN [c, e] = 0
 ·rw [if_pos h]
  have he : e = 0 := firstN_zero.1 h e (by simp)
  have hl := (e3.1 he).1
  cases hp : playM w l w.2.2.1 (ou0 w) [] with
  | none => exact Nat.zero_le _
  | some r =>
   have := playM_len l _ _ _ r hp
   show r.2.2.length ≤ _
   simp only [List.length_nil] at this
   omega
 ·rw [if_neg h]
  exact Nat.zero_le _
end Go.Proofs.Ytadhpgecilhgnaa.Pure

-- YtadhpgecilhgnaaPureWatchesPlayInParts
set_option linter.unusedVariables false
set_option linter.unusedSimpArgs false
namespace Go.Proofs.Ytadhpgecilhgnaa.Pure
open Go Go.Proofs.Ytadhpgecilhgnaa.A
theorem parts_fin (w : DWatch) (l : List DEvent) (n : Int) (h0 : okT YWatch w) (h1 : okT (.sl YEvent) l) (T : List DFired) {c : Int} (q1 : Ev (fun k => monitor_CheckWatch.f k w) (c, ())) (hc : c = 0) (hev : EvOk l) (hT : ∃ mode s, playM w l w.2.2.1 (ou0 w) [] = some (mode, (s, T))) (n0 : 0 ≤ n) (n1 : n ≤ l.length) :
 Ev (fun k => perigeelaw8_WatchesPlayInParts.c0 k l n w.1 w.2.1 w.2.2.1 w.2.2.2 T) (true, ()) := by
 have h1' : okT (.sl YEvent) (l.take n.toNat) := ⟨by have := h1.1; rw [List.length_take]; omega, Nat.le_trans (Nat.mul_le_mul_right _ (by rw [List.length_take]; omega)) h1.2.1, fun x hx => h1.2.2 x (List.mem_of_mem_take hx)⟩
 obtain ⟨c', e', r, k1, _, e1, _, ok, ek, hr, hl, r1, _⟩ := plays w (l.take n.toNat) h0 h1'
 have : c' = c := by have := k1.unique q1; simpa using this
 subst this
 have he : e' = 0 := ek.2 (okEvents_take hev _)
 have hf : firstN [c', e'] = 0 := firstN_zero.2 (by simp [hc, he])
 rw [if_pos hf] at hr
 obtain ⟨mode, s, hT⟩ := hT
 rw [show l = l.take n.toNat ++ l.drop n.toNat by rw [List.take_append_drop], playM_app] at hT
 cases hp : playM w (l.take n.toNat) w.2.2.1 (ou0 w) [] with
 | none => rw [hp] at hT; cases hT
 | some p =>
  rw [hp] at hT hr
  obtain ⟨U, hU⟩ := playM_pre _ _ _ _ _ hT
  have hr : r = (p.2.2, (0, ())) := hr
  have hU : T = p.2.2 ++ U := hU
  have hq : ((T.take (r.1.length : Int).toNat).drop 0) = r.1 := by rw [hr, hU]; simp
  refine Ev.step (fun k => perigeelaw8_WatchesPlayInParts.c0_eq _ _ _ _ _ _ _ _) (Ev.yes (by omega) ?_)
  rw [List.drop_zero]
  have hlen : r.1.length ≤ T.length := by rw [hr, hU, List.length_append]; exact Nat.le_add_right _ _
  refine Ev.bind r1 (Ev.yes (by rw [hr]; rfl) (Ev.yes (decide_eq_true (by omega)) (Ev.yes (by omega) ?_)))
  rw [hq]
  exact Ev.bind (equalF_ev r.1 (by omega)) (Ev.yes rfl (Ev.bind awake_ev (Ev.now _)))
theorem WatchesPlayInParts (w : DWatch) (l : List DEvent) (n : Int) (h0 : okT YWatch w) (h1 : okT (.sl YEvent) l) (h2 : okT (.int .i64) n) : ∃ n', perigeelaw8_WatchesPlayInParts.f n' w l n = some (true, ()) := by
 refine Ev.rounds (g := fun k => perigeelaw8_WatchesPlayInParts.f k w l n) ?_
 obtain ⟨c, e, r, q1, q2, e1, e2, ok, ek, hr, hl, r1, r2⟩ := plays w l h0 h1
 refine Ev.eq (fun k => perigeelaw8_WatchesPlayInParts.f_eq _ _ _ _) (Ev.bind r1 ?_)
 by_cases hz : r.2.1 = 0
 case neg =>
  refine Ev.yes (by simp [hz]) (Ev.no (by simp [hz]) (Ev.yes ?_ (Ev.bind awake_ev (Ev.now _))))
  rw [hr]
  by_cases hf : firstN [c, e] = 0
  ·rw [if_pos hf] at hr ⊢
   cases hp : playM w l w.2.2.1 (ou0 w) [] with
   | none => rfl
   | some p => rw [hp] at hr; exact absurd (by rw [hr]; rfl) hz
  ·rw [if_neg hf]; rfl
 refine Ev.no (by simp [hz]) ?_
 by_cases n0 : n < 0
 ·exact Ev.yes (decide_eq_true n0) (Ev.yes (decide_eq_true hz) (Ev.bind awake_ev (Ev.now _)))
 refine Ev.no (by simpa using n0) ?_
 by_cases n1 : (l.length : Int) < n
 ·exact Ev.yes (decide_eq_true n1) (Ev.yes (decide_eq_true hz) (Ev.bind awake_ev (Ev.now _)))
 refine Ev.no (by simpa using n1) ?_
 have hf : firstN [c, e] = 0 := Classical.byContradiction fun hf => by
  rw [if_neg hf] at hr
  exact hf (by rw [hr] at hz; exact hz)
 have hzz := firstN_zero.1 hf
 rw [if_pos hf] at hr
 refine parts_fin w l n h0 h1 r.1 q1 (hzz c (by simp)) (ek.1 (hzz e (by simp))) ?_ (by omega) (by omega)
 cases hp : playM w l w.2.2.1 (ou0 w) [] with
 | none => rw [hp] at hr; exact absurd hz (by rw [hr]; decide)
 | some p => rw [hp] at hr; exact ⟨p.1, p.2.1, by rw [hr]; rfl⟩
end Go.Proofs.Ytadhpgecilhgnaa.Pure
