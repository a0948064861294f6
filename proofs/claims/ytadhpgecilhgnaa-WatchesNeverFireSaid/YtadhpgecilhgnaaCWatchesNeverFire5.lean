/- a rule that never fires with some events does not fire when only these come; and without a ring few events end without ErrLoop -/
import Derived.Sort.Walk0
import Derived.Test.YtadhpgecilhgnaaCWatchesNeverFire4
-- YtadhpgecilhgnaaQ45
set_option linter.unusedVariables false
set_option linter.unusedSimpArgs false
namespace Go.Proofs.Ytadhpgecilhgnaa.Pure
open Go Go.Proofs.Ytadhpgecilhgnaa.A
section
variable {w : DWatch} {at' : Int} {ev0 : S}
abbrev cft (w : DWatch) (mo : S) (on : List Bool) (us : List S) (T : List DFired) : DCraft := (w, (mo, (on, (us, T))))
theorem racts_ev (ok : RulesOk w) {i : Nat} (hi : i < nRu w) {mo ev mode : S} {T : List DFired} {many idx : Int} {were : List Bool} {r : Int × DCraft × Unit} {n1 n2 n3 : S} {n4 : Bool} {s : OU} (hon : s.1.length = nRu w) {td : List S} (htd : td.length ≤ 1000000)
 {us : List S} (hu : UL us s.2) (hl : us.length ≤ 800000000)
 (fin : ∀ us', UL us' ((rul w i).2.2.2.2.foldl (actM w) s).2 → us'.length ≤ us.length + 10 → Ev (fun k => perigeeref8_craft_come.c2 k w.1 w.2.1 w.2.2.1 w.2.2.2 mo ((rul w i).2.2.2.2.foldl (actM w) s).1 us' T at' ev0 (td ++ raiM (rul w i).2.2.2.2) many idx ev mode were (IntKind.wrap .i64 ((i : Int) + 1))) r) :
 Ev (fun k => perigeeref8_craft_come.c5 k w.1 w.2.1 w.2.2.1 w.2.2.2 mo s.1 us T at' ev0 td many idx ev mode were (i : Int) n1 n2 n3 n4 (rul w i).2.2.2.2 0) r := by
 obtain ⟨al, _, ak⟩ := ok.ac i hi
 have loop : ∀ (d j : Nat) (us : List S) (us0 : Nat) (s : OU) (td : List S), j + d = (rul w i).2.2.2.2.length → s.1.length = nRu w → UL us s.2 → us.length ≤ us0 + j → us0 ≤ 800000000 → td.length ≤ 1000000 + j →
  (∀ us', UL us' (((rul w i).2.2.2.2.drop j).foldl (actM w) s).2 → us'.length ≤ us0 + 10 → Ev (fun k => perigeeref8_craft_come.c2 k w.1 w.2.1 w.2.2.1 w.2.2.2 mo (((rul w i).2.2.2.2.drop j).foldl (actM w) s).1 us' T at' ev0 (td ++ raiM ((rul w i).2.2.2.2.drop j)) many idx ev mode were (IntKind.wrap .i64 ((i : Int) + 1))) r) →
  Ev (fun k => perigeeref8_craft_come.c5 k w.1 w.2.1 w.2.2.1 w.2.2.2 mo s.1 us T at' ev0 td many idx ev mode were (i : Int) n1 n2 n3 n4 (rul w i).2.2.2.2 (j : Int)) r := by
  intro d
  induction d with
  | zero =>
   intro j us us0 s td hj hon hu hl h0 htd fin
   have := fin us (by rw [List.drop_of_length_le (by omega)]; exact hu) (by omega)
   rw [List.drop_of_length_le (by omega)] at this
   refine Ev.step (fun k => perigeeref8_craft_come.c5_eq _ _ _ _ _ _ _ _ _ _ _ _ _ _ _ _ _ _ _ _ _ _ _ _) (Ev.no (fun h => by have := of_decide_eq_true h; omega) ?_)
   simpa [raiM] using this
  | succ d ih =>
   intro j us us0 s td hj hon hu hl h0 htd fin
   have hjl : j < (rul w i).2.2.2.2.length := by omega
   have hd : (rul w i).2.2.2.2.drop j = (rul w i).2.2.2.2[j] :: (rul w i).2.2.2.2.drop (j + 1) := List.drop_eq_getElem_cons hjl
   have hg : (rul w i).2.2.2.2.getD j (Ty.dflt YAct) = (rul w i).2.2.2.2[j] := getD_nat _ _ _ hjl
   generalize ha : (rul w i).2.2.2.2[j] = a at hd hg
   have ham : a ∈ (rul w i).2.2.2.2 := by rw [← ha]; exact List.getElem_mem _
   obtain ⟨us1, u1, u2, u3⟩ := cact_ev ok hi ham mo s.1 us T s.2 hon hu (by omega)
   have hw : IntKind.wrap .i64 ((j : Int) + 1) = ((j + 1 : Nat) : Int) := by rw [w64 (by omega) (by omega)]; omega
   have hlen : (actM w s a).1.length = nRu w := (actM_len s a).trans hon
   refine Ev.step (fun k => perigeeref8_craft_come.c5_eq _ _ _ _ _ _ _ _ _ _ _ _ _ _ _ _ _ _ _ _ _ _ _ _) (Ev.yes (decide_eq_true (by omega)) (Ev.yes (by omega) ?_))
   simp only [Int.toNat_natCast, hg, hw]
   refine Ev.bind u3 ?_
   have hr : raiM ((rul w i).2.2.2.2.drop j) = (if a.1 = 1 then [a.2.1] else []) ++ raiM ((rul w i).2.2.2.2.drop (j + 1)) := by
    rw [hd]
    unfold raiM
    by_cases h1 : a.1 = 1
    ·rw [if_pos h1, List.filter_cons_of_pos (by simpa using h1)]; rfl
    ·rw [if_neg h1, List.filter_cons_of_neg (by simpa using h1)]; rfl
   have hf : ((rul w i).2.2.2.2.drop j).foldl (actM w) s = ((rul w i).2.2.2.2.drop (j + 1)).foldl (actM w) (actM w s a) := by rw [hd]; rfl
   by_cases h1 : a.1 = 1
   ·simp only [if_pos h1]
    have hne := (ak a ham).2
    refine Ev.yes (by simpa using hne) (Ev.yes (by omega) (ih (j + 1) us1 us0 (actM w s a) (td ++ [a.2.1]) (by omega) hlen u1 (by omega) h0 (by simp; omega) fun us' q1 q2 => ?_))
    rw [← hf] at q1 ⊢
    have := fin us' q1 q2
    rw [hr, if_pos h1, ← List.append_assoc] at this
    exact this
   ·simp only [if_neg h1]
    refine Ev.no (by simp) (ih (j + 1) us1 us0 (actM w s a) td (by omega) hlen u1 (by omega) h0 (by omega) fun us' q1 q2 => ?_)
    rw [← hf] at q1 ⊢
    have := fin us' q1 q2
    rw [hr, if_neg h1, List.nil_append] at this
    exact this
 exact loop _ 0 us us.length s td (Nat.zero_add _) hon hu (by omega) hl (by omega) (by simpa using fin)
def frB (w : DWatch) (on : List Bool) (mode ev : S) (i : Nat) : Bool := decide ((rul w i).2.1 = ev) && (on.getD i false && inM w mode i)
theorem fireM_eq (on : List Bool) (mode ev : S) : fireM w on mode ev = (List.range' 0 (nRu w)).filter (frB w on mode ev) := by
 unfold fireM evR frB
 rw [List.filter_filter, List.range_eq_range']
 congr 1
 funext i
 rw [Bool.and_comm]
theorem rfire_ev (ok : RulesOk w) {mo ev mode : S} {idx : Int} {were : List Bool} {T0 : List DFired} (hw0 : were.length = nRu w) (hT : T0.length ≤ 60000000) :
 ∀ (d i : Nat) (s : RS) (us pre : List S), i + d = nRu w → UL us s.1.2 → s.1.1.length = nRu w → s.2.1.length ≤ 10000 → (pre ++ s.2.2).length ≤ 10 * s.2.1.length → us.length ≤ 10 * (T0.length + s.2.1.length) →
  (10000 < (((List.range' i d).filter (frB w were mode ev)).foldl (ruleM w at' ev mode) s).2.1.length ∧ ∃ c, Ev (fun k => perigeeref8_craft_come.c2 k w.1 w.2.1 w.2.2.1 w.2.2.2 mo s.1.1 us (T0 ++ s.2.1) at' ev0 (pre ++ s.2.2) (s.2.1.length : Int) idx ev mode were (i : Int)) (17, (c, ()))) ∨
  ((((List.range' i d).filter (frB w were mode ev)).foldl (ruleM w at' ev mode) s).2.1.length ≤ 10000 ∧ ∃ us', UL us' (((List.range' i d).filter (frB w were mode ev)).foldl (ruleM w at' ev mode) s).1.2 ∧ us'.length ≤ 10 * (T0.length + (((List.range' i d).filter (frB w were mode ev)).foldl (ruleM w at' ev mode) s).2.1.length) ∧
   (pre ++ (((List.range' i d).filter (frB w were mode ev)).foldl (ruleM w at' ev mode) s).2.2).length ≤ 10 * (((List.range' i d).filter (frB w were mode ev)).foldl (ruleM w at' ev mode) s).2.1.length ∧
   ∀ q, Ev (fun k => perigeeref8_craft_come.c0 k w.1 w.2.1 w.2.2.1 w.2.2.2 mo (((List.range' i d).filter (frB w were mode ev)).foldl (ruleM w at' ev mode) s).1.1 us' (T0 ++ (((List.range' i d).filter (frB w were mode ev)).foldl (ruleM w at' ev mode) s).2.1) at' ev0 (pre ++ (((List.range' i d).filter (frB w were mode ev)).foldl (ruleM w at' ev mode) s).2.2) ((((List.range' i d).filter (frB w were mode ev)).foldl (ruleM w at' ev mode) s).2.1.length : Int) (IntKind.wrap .i64 (idx + 1))) q →
    Ev (fun k => perigeeref8_craft_come.c2 k w.1 w.2.1 w.2.2.1 w.2.2.2 mo s.1.1 us (T0 ++ s.2.1) at' ev0 (pre ++ s.2.2) (s.2.1.length : Int) idx ev mode were (i : Int)) q) := by
 have rl := ok.rl
 have hnR : nRu w = w.2.2.2.length := rfl
 intro d
 induction d with
 | zero =>
  intro i s us pre hi hu hon ht hq hl
  exact .inr ⟨ht, us, hu, hl, hq, fun q e => Ev.step (fun k => perigeeref8_craft_come.c2_eq _ _ _ _ _ _ _ _ _ _ _ _ _ _ _ _ _ _) (Ev.no (by simp; omega) e)⟩
 | succ d ih =>
  intro i s us pre hi hu hon ht hq hl
  have hin : i < nRu w := by omega
  have hw : IntKind.wrap .i64 ((i : Int) + 1) = ((i + 1 : Nat) : Int) := by rw [w64 (by omega) (by omega)]; omega
  have hc : IntKind.wrap .i64 ((s.2.1.length : Int) + 1) = ((s.2.1.length + 1 : Nat) : Int) := by rw [w64 (by omega) (by omega)]; omega
  have hfc : (List.range' i (d + 1)).filter (frB w were mode ev) = if frB w were mode ev i = true then i :: (List.range' (i + 1) d).filter (frB w were mode ev) else (List.range' (i + 1) d).filter (frB w were mode ev) := by
   rw [List.range'_succ, List.filter_cons]
  rw [hfc]
  have hx : w.2.2.2.getD i (Ty.dflt YWatchRule) = rul w i := rfl
  cases hb : frB w were mode ev i with
  | false =>
   simp only [Bool.false_eq_true, if_false]
   have skip : ∀ {q : Int × DCraft × Unit}, Ev (fun k => perigeeref8_craft_come.c2 k w.1 w.2.1 w.2.2.1 w.2.2.2 mo s.1.1 us (T0 ++ s.2.1) at' ev0 (pre ++ s.2.2) (s.2.1.length : Int) idx ev mode were ((i + 1 : Nat) : Int)) q → Ev (fun k => perigeeref8_craft_come.c2 k w.1 w.2.1 w.2.2.1 w.2.2.2 mo s.1.1 us (T0 ++ s.2.1) at' ev0 (pre ++ s.2.2) (s.2.1.length : Int) idx ev mode were (i : Int)) q := fun {q} e => by
    refine Ev.step (fun k => perigeeref8_craft_come.c2_eq _ _ _ _ _ _ _ _ _ _ _ _ _ _ _ _ _ _) (Ev.yes (decide_eq_true (by omega)) (Ev.yes (by omega) (Ev.yes (by omega) ?_)))
    simp only [Int.toNat_natCast, hw]
    by_cases h1 : were.getD i false = true
    case neg => exact Ev.yes (by simpa using h1) e
    refine Ev.no (fun h => by rw [h1] at h; cases h) ?_
    by_cases h2 : (rul w i).2.1 = ev
    case neg => exact Ev.yes (by simpa using h2) e
    refine Ev.no (by simpa using h2) ?_
    have h3 : inM w mode i = false := by
     unfold frB at hb
     rw [decide_eq_true h2, h1] at hb
     simpa using hb
    unfold inM at h3
    simp only [Bool.or_eq_false_iff, decide_eq_false_iff_not] at h3
    exact Ev.yes (by simpa using h3.1) (Ev.yes (by simpa using h3.2) e)
   rcases ih (i + 1) s us pre (by omega) hu hon ht hq hl with ⟨b1, c, b2⟩ | ⟨b1, us', b2, b3, b4, b5⟩
   ·exact .inl ⟨b1, c, skip b2⟩
   ·exact .inr ⟨b1, us', b2, b3, b4, fun q e => skip (b5 q e)⟩
  | true =>
   simp only [if_true, List.foldl_cons]
   have hb' := hb
   unfold frB at hb'
   simp only [Bool.and_eq_true, decide_eq_true_eq] at hb'
   obtain ⟨h2, h1, h3⟩ := hb'
   let on1 : List Bool := if (rul w i).2.2.2.1 = true then s.1.1.set i false else s.1.1
   have hon1 : on1.length = nRu w := by show (if _ then _ else _ : List Bool).length = _; split <;> simp [hon]
   obtain ⟨t1, t2⟩ := ruleM_len (w := w) (at' := at') s ev mode i
   have hsM : ruleM w at' ev mode s i = ((rul w i).2.2.2.2.foldl (actM w) (on1, s.1.2), (s.2.1 ++ [(at', (ev, (mode, (rul w i).1)))], s.2.2 ++ raiM (rul w i).2.2.2.2)) := rfl
   have rle := raiM_len ok hin
   have hTl : (T0 ++ s.2.1).length = T0.length + s.2.1.length := by simp
   -- up to the rule's telling
   have enter : ∀ {q : Int × DCraft × Unit}, Ev (fun k => perigeeref8_craft_come.c3 k w.1 w.2.1 w.2.2.1 w.2.2.2 mo s.1.1 us (T0 ++ s.2.1) at' ev0 (pre ++ s.2.2) (s.2.1.length : Int) idx ev mode were (i : Int) (rul w i).1 (rul w i).2.1 (rul w i).2.2.1 (rul w i).2.2.2.1 (rul w i).2.2.2.2) q →
    Ev (fun k => perigeeref8_craft_come.c2 k w.1 w.2.1 w.2.2.1 w.2.2.2 mo s.1.1 us (T0 ++ s.2.1) at' ev0 (pre ++ s.2.2) (s.2.1.length : Int) idx ev mode were (i : Int)) q := fun {q} e => by
    refine Ev.step (fun k => perigeeref8_craft_come.c2_eq _ _ _ _ _ _ _ _ _ _ _ _ _ _ _ _ _ _) (Ev.yes (decide_eq_true (by omega)) (Ev.yes (by omega) (Ev.yes (by omega) ?_)))
    simp only [Int.toNat_natCast]
    refine Ev.no (fun h => by rw [h1] at h; cases h) (Ev.no (by simpa using h2) ?_)
    by_cases h4 : (rul w i).2.2.1 = []
    ·exact Ev.no (fun h => by rw [decide_eq_true h4] at h; cases h) e
    ·refine Ev.yes (by simpa using h4) (Ev.no ?_ e)
     unfold inM at h3
     rw [decide_eq_false h4, Bool.false_or] at h3
     simpa using of_decide_eq_true h3
   by_cases h : 10000 < s.2.1.length + 1
   ·refine .inl ⟨?_, _, enter (Ev.step (fun k => perigeeref8_craft_come.c3_eq _ _ _ _ _ _ _ _ _ _ _ _ _ _ _ _ _ _ _ _ _ _ _) (Ev.yes (by omega) (Ev.yes (by rw [hc]; exact decide_eq_true (by omega)) (Ev.now _))))⟩
    rw [(rules_told (w := w) (at' := at') ev mode _ _).1, t1]
    omega
   ·have go : ∀ {q : Int × DCraft × Unit}, (∀ us', UL us' (ruleM w at' ev mode s i).1.2 → us'.length ≤ us.length + 10 → Ev (fun k => perigeeref8_craft_come.c2 k w.1 w.2.1 w.2.2.1 w.2.2.2 mo (ruleM w at' ev mode s i).1.1 us' (T0 ++ (ruleM w at' ev mode s i).2.1) at' ev0 (pre ++ (ruleM w at' ev mode s i).2.2) ((ruleM w at' ev mode s i).2.1.length : Int) idx ev mode were ((i + 1 : Nat) : Int)) q) →
     Ev (fun k => perigeeref8_craft_come.c2 k w.1 w.2.1 w.2.2.1 w.2.2.2 mo s.1.1 us (T0 ++ s.2.1) at' ev0 (pre ++ s.2.2) (s.2.1.length : Int) idx ev mode were (i : Int)) q := fun {q} fin => by
     refine enter (Ev.step (fun k => perigeeref8_craft_come.c3_eq _ _ _ _ _ _ _ _ _ _ _ _ _ _ _ _ _ _ _ _ _ _ _) (Ev.yes (by omega) (Ev.no (by rw [hc]; simp; omega) ?_)))
     rw [hc]
     have acts : Ev (fun k => perigeeref8_craft_come.c4 k w.1 w.2.1 w.2.2.1 w.2.2.2 mo on1 us (T0 ++ s.2.1 ++ [(at', (ev, (mode, (rul w i).1)))]) at' ev0 (pre ++ s.2.2) ((s.2.1.length + 1 : Nat) : Int) idx ev mode were (i : Int) (rul w i).1 (rul w i).2.1 (rul w i).2.2.1 (rul w i).2.2.2.1 (rul w i).2.2.2.2) q := by
      refine Ev.step (fun k => perigeeref8_craft_come.c4_eq _ _ _ _ _ _ _ _ _ _ _ _ _ _ _ _ _ _ _ _ _ _ _) ?_
      refine racts_ev (s := (on1, s.1.2)) ok hin hon1 (by omega) hu (by omega) fun us' q1 q2 => ?_
      have := fin us' q1 q2
      rw [hw]
      rw [t1, hsM] at this
      simp only [← List.append_assoc] at this ⊢
      exact this
     by_cases ho : (rul w i).2.2.2.1 = true
     ·refine Ev.yes ho (Ev.yes (by omega) ?_)
      have e1 : on1 = s.1.1.set i false := if_pos ho
      rw [e1] at acts
      rw [Int.toNat_natCast]
      exact acts
     ·have e1 : on1 = s.1.1 := if_neg ho
      rw [e1] at acts
      exact Ev.no ho acts
    have key : ∀ us', UL us' (ruleM w at' ev mode s i).1.2 → us'.length ≤ us.length + 10 → _ := fun us' q1 q2 => ih (i + 1) (ruleM w at' ev mode s i) us' pre (by omega) q1 (t2.trans hon) (by omega) (by rw [t1, hsM]; simp only [List.length_append] at hq ⊢; omega) (by rw [t1]; omega)
    -- the map of units is one, whatever way: choose it once
    obtain ⟨us1, v1, v2, v3⟩ : ∃ us', UL us' (ruleM w at' ev mode s i).1.2 ∧ us'.length ≤ us.length + 10 ∧ ∀ {q : Int × DCraft × Unit}, Ev (fun k => perigeeref8_craft_come.c2 k w.1 w.2.1 w.2.2.1 w.2.2.2 mo (ruleM w at' ev mode s i).1.1 us' (T0 ++ (ruleM w at' ev mode s i).2.1) at' ev0 (pre ++ (ruleM w at' ev mode s i).2.2) ((ruleM w at' ev mode s i).2.1.length : Int) idx ev mode were ((i + 1 : Nat) : Int)) q → Ev (fun k => perigeeref8_craft_come.c2 k w.1 w.2.1 w.2.2.1 w.2.2.2 mo s.1.1 us (T0 ++ s.2.1) at' ev0 (pre ++ s.2.2) (s.2.1.length : Int) idx ev mode were (i : Int)) q := by
     obtain ⟨us1, v1, v2⟩ : ∃ us', UL us' (ruleM w at' ev mode s i).1.2 ∧ us'.length ≤ us.length + 10 := by
      have hal := (ok.ac i hin).1
      have : ∀ (l : List DAct) (s' : OU) (us : List S), (∀ a ∈ l, a ∈ (rul w i).2.2.2.2) → s'.1.length = nRu w → UL us s'.2 → us.length + l.length ≤ 900000000 → ∃ us', UL us' (l.foldl (actM w) s').2 ∧ us'.length ≤ us.length + l.length := by
       intro l
       induction l with
       | nil => intro s' us _ _ hu _; exact ⟨us, hu, by simp⟩
       | cons a l ihl =>
        intro s' us hm hs hu hl
        simp only [List.length_cons] at hl
        obtain ⟨us1, u1, u2, _⟩ := cact_ev ok hin (hm a (by simp)) mo s'.1 us [] s'.2 hs hu (by omega)
        obtain ⟨us2, u3, u4⟩ := ihl (actM w s' a) us1 (fun b hb => hm b (by simp [hb])) ((actM_len s' a).trans hs) u1 (by omega)
        exact ⟨us2, u3, by simp only [List.length_cons]; omega⟩
      obtain ⟨us1, u1, u2⟩ := this (rul w i).2.2.2.2 (on1, s.1.2) us (fun a h => h) hon1 hu (by omega)
      exact ⟨us1, u1, by omega⟩
     refine ⟨us1, v1, v2, fun {q} e => go fun us' q1 q2 => ?_⟩
     have : us' = us1 := sorted_ext q1.1 v1.1 fun x => (q1.2 x).trans (v1.2 x).symm
     rw [this]; exact e
    rcases key us1 v1 v2 with ⟨b1, c, b2⟩ | ⟨b1, us', b2, b3, b4, b5⟩
    ·exact .inl ⟨b1, c, v3 b2⟩
    ·exact .inr ⟨b1, us', b2, b3, b4, fun q e => v3 (b5 q e)⟩
end
end Go.Proofs.Ytadhpgecilhgnaa.Pure

-- YtadhpgecilhgnaaQ46
set_option linter.unusedVariables false
set_option linter.unusedSimpArgs false
namespace Go.Proofs.Ytadhpgecilhgnaa.Pure
open Go Go.Proofs.Ytadhpgecilhgnaa.A
section
variable {w : DWatch} {at' : Int} {ev0 : S}
theorem toO_take {C : List DModeChange} {i : Nat} {c : DModeChange} (h : C[i]? = some c) (mode ev : S) : toO (C.take (i + 1)) mode ev none = if c.1 = mode ∧ c.2.1 = ev then some c.2.2 else toO (C.take i) mode ev none := by
 rw [List.take_add_one, h]
 unfold toO
 rw [List.foldl_append]
 rfl
theorem rchange_ev (ok : ModesOk w) {mode ev : S} {on : List Bool} {us : List S} {T : List DFired} {td : List S} {many idx : Int} {r : Int × DCraft × Unit} (hon : on.length ≤ 200)
 (fin : Ev (fun k => perigeeref8_craft_come.c2 k w.1 w.2.1 w.2.2.1 w.2.2.2 (toM w.2.1 mode ev) on us T at' ev0 td many idx ev mode on 0) r) :
 Ev (fun k => perigeeref8_craft_come.c1 k w.1 w.2.1 w.2.2.1 w.2.2.2 mode on us T at' ev0 td many idx ev mode 0) r := by
 have cl := ok.cl
 have h := Ev.rng (σ := S) (Ty.dflt YModeChange) w.2.1 (by omega) (g := fun k m i => perigeeref8_craft_come.c1 k w.1 w.2.1 w.2.2.1 w.2.2.2 m on us T at' ev0 td many idx ev mode i) (fun k m i => perigeeref8_craft_come.c1_eq _ _ _ _ _ _ _ _ _ _ _ _ _ _ _ _ _)
  (fun i m => m = (toO (w.2.1.take i) mode ev none).getD mode) (fun _ _ _ => r) (fun m hm => by
   rw [List.take_length] at hm
   have e : m = toM w.2.1 mode ev := hm
   rw [e]
   exact Ev.yes (by omega) fin) (fun i x xs m hi hx hd hget hw hm next => by
   simp only [Int.toNat_natCast, hget, hw]
   have hg : w.2.1[i]? = some x := by rw [List.getElem?_eq_getElem hi, ← hget, getD_nat _ _ _ hi]
   by_cases h1 : x.1 = mode
   ·refine Ev.yes (decide_eq_true h1) ?_
    by_cases h2 : x.2.1 = ev
    ·refine Ev.yes (decide_eq_true h2) (next _ ?_)
     rw [toO_take hg, if_pos ⟨h1, h2⟩]; rfl
    ·refine Ev.no (fun h => h2 (of_decide_eq_true h)) (next _ ?_)
     rw [toO_take hg, if_neg (fun h => h2 h.2)]; exact hm
   ·refine Ev.no (fun h => h1 (of_decide_eq_true h)) (next _ ?_)
    rw [toO_take hg, if_neg (fun h => h1 h.1)]; exact hm) 0 mode (by omega) rfl
 exact h
theorem comeR_ev (ok : RulesOk w) (mk : ModesOk w) {T0 : List DFired} (hT : T0.length ≤ 60000000) : ∀ (n : Nat) (mode : S) (s : OU) (told : List DFired) (us pre q : List S), 10001 ≤ told.length + n → told.length ≤ 10000 → UL us s.2 → s.1.length = nRu w → (pre ++ q).length ≤ 10 * told.length + 1 → us.length ≤ 10 * (T0.length + told.length) →
 (comeM w at' n mode s told q = none ∧ ∃ c, Ev (fun k => perigeeref8_craft_come.c0 k w.1 w.2.1 w.2.2.1 w.2.2.2 mode s.1 us (T0 ++ told) at' ev0 (pre ++ q) (told.length : Int) (pre.length : Int)) (17, (c, ()))) ∨
 ∃ mode' s' told', comeM w at' n mode s told q = some (mode', (s', told')) ∧ told'.length ≤ 10000 ∧ s'.1.length = nRu w ∧ ∃ us', UL us' s'.2 ∧ us'.length ≤ 10 * (T0.length + told'.length) ∧ Ev (fun k => perigeeref8_craft_come.c0 k w.1 w.2.1 w.2.2.1 w.2.2.2 mode s.1 us (T0 ++ told) at' ev0 (pre ++ q) (told.length : Int) (pre.length : Int)) (0, (cft w mode' s'.1 us' (T0 ++ told'), ())) := by
 have rl := ok.rl
 have hnR : nRu w = w.2.2.2.length := rfl
 intro n
 induction n with
 | zero => intro mode s told us pre q h1 h2; omega
 | succ n ih =>
  intro mode s told us pre q hn ht hu hon hq hl
  have hTl : (T0 ++ told).length = T0.length + told.length := by simp
  cases q with
  | nil => exact .inr ⟨mode, s, told, rfl, ht, hon, us, hu, hl, Ev.step (fun k => perigeeref8_craft_come.c0_eq _ _ _ _ _ _ _ _ _ _ _ _ _ _) (Ev.no (by simp) (Ev.now _))⟩
  | cons ev q =>
   have hpq : (pre ++ ev :: q).length = pre.length + q.length + 1 := by simp; omega
   have hg : (pre ++ ev :: q).getD pre.length [] = ev := by
    rw [List.getD_eq_getElem?_getD, List.getElem?_append_right (Nat.le_refl _)]; simp
   have hc : IntKind.wrap .i64 ((told.length : Int) + 1) = ((told.length + 1 : Nat) : Int) := by rw [w64 (by omega) (by omega)]; omega
   have hcm : comeM w at' (n + 1) mode s told (ev :: q) = if 10000 < (evM w at' mode s told ev q).2.1.length then none else comeM w at' n (toM w.2.1 mode ev) (evM w at' mode s told ev q).1 (evM w at' mode s told ev q).2.1 (evM w at' mode s told ev q).2.2 := rfl
   let s0 : RS := (s, (told ++ [(at', (ev, (mode, [])))], q))
   have hM : ((List.range' 0 (nRu w)).filter (frB w s.1 mode ev)).foldl (ruleM w at' ev mode) s0 = evM w at' mode s told ev q := by rw [← fireM_eq]; rfl
   have hl3 : told.length + 1 ≤ (evM w at' mode s told ev q).2.1.length := by
    have := (rules_told (w := w) (at' := at') ev mode (fireM w s.1 mode ev) s0).1
    have e : (fireM w s.1 mode ev).foldl (ruleM w at' ev mode) s0 = evM w at' mode s told ev q := rfl
    rw [e] at this
    simp only [s0, List.length_append, List.length_singleton] at this
    omega
   by_cases hten : 10000 < told.length + 1
   ·refine .inl ⟨by rw [hcm, if_pos (by omega)], _, Ev.step (fun k => perigeeref8_craft_come.c0_eq _ _ _ _ _ _ _ _ _ _ _ _ _ _) (Ev.yes (decide_eq_true (by omega)) (Ev.yes (by omega) (Ev.yes (by omega) (Ev.yes (by rw [hc]; exact decide_eq_true (by omega)) (Ev.now _)))))⟩
   have pre' : ∀ {r}, Ev (fun k => perigeeref8_craft_come.c2 k w.1 w.2.1 w.2.2.1 w.2.2.2 (toM w.2.1 mode ev) s0.1.1 us (T0 ++ s0.2.1) at' ev0 ((pre ++ [ev]) ++ s0.2.2) (s0.2.1.length : Int) (pre.length : Int) ev mode s.1 ((0 : Nat) : Int)) r →
    Ev (fun k => perigeeref8_craft_come.c0 k w.1 w.2.1 w.2.2.1 w.2.2.2 mode s.1 us (T0 ++ told) at' ev0 (pre ++ ev :: q) (told.length : Int) (pre.length : Int)) r := fun {r} fin => by
    refine Ev.step (fun k => perigeeref8_craft_come.c0_eq _ _ _ _ _ _ _ _ _ _ _ _ _ _) (Ev.yes (decide_eq_true (by omega)) (Ev.yes (by omega) (Ev.yes (by omega) (Ev.no (by rw [hc]; simp; omega) ?_))))
    rw [hc, Int.toNat_natCast, hg]
    refine rchange_ev mk (by omega) ?_
    have e1 : (s0.2.1.length : Int) = ((told.length + 1 : Nat) : Int) := by simp [s0]
    rw [e1] at fin
    simp only [s0, List.append_assoc, List.singleton_append] at fin ⊢
    exact fin
   have fe := rfire_ev (w := w) (at' := at') (ev0 := ev0) ok (mo := toM w.2.1 mode ev) (ev := ev) (mode := mode) (idx := (pre.length : Int)) (were := s.1) (T0 := T0) hon hT (nRu w) 0 s0 us (pre ++ [ev]) (Nat.zero_add _) hu hon (by simp only [s0, List.length_append, List.length_singleton]; omega) (by simp only [s0, List.length_append, List.length_singleton]; omega) (by simp only [s0, List.length_append, List.length_singleton]; omega)
   rw [hM] at fe
   rcases fe with ⟨b1, c, b2⟩ | ⟨b1, us', b2, b3, b4, b5⟩
   ·exact .inl ⟨by rw [hcm, if_pos b1], c, pre' b2⟩
   ·have hl2 : (evM w at' mode s told ev q).1.1.length = nRu w := ((rules_told (w := w) (at' := at') ev mode (fireM w s.1 mode ev) s0).2).trans hon
    have hidx : IntKind.wrap .i64 ((pre.length : Int) + 1) = ((pre ++ [ev]).length : Int) := by rw [w64 (by omega) (by omega)]; simp
    rcases ih (toM w.2.1 mode ev) (evM w at' mode s told ev q).1 (evM w at' mode s told ev q).2.1 us' (pre ++ [ev]) (evM w at' mode s told ev q).2.2 (by omega) b1 b2 hl2 (by omega) b3 with ⟨c1, c, c2⟩ | ⟨mode', s', told', c1, c2, c3, us2, c4, c5, c6⟩
    ·exact .inl ⟨by rw [hcm, if_neg (by omega)]; exact c1, c, pre' (b5 _ (by rw [hidx]; exact c2))⟩
    ·exact .inr ⟨mode', s', told', by rw [hcm, if_neg (by omega)]; exact c1, c2, c3, us2, c4, c5, pre' (b5 _ (by rw [hidx]; exact c6))⟩
theorem rcome_ev (ok : RulesOk w) (mk : ModesOk w) {T0 : List DFired} (hT : T0.length ≤ 60000000) (mode : S) (s : OU) (us : List S) (e : DEvent) (hu : UL us s.2) (hon : s.1.length = nRu w) (hl : us.length ≤ 10 * T0.length) :
 (comeM w e.1 10001 mode s [] [e.2] = none ∧ ∃ c, Ev (fun k => perigeeref8_craft_come.f k (cft w mode s.1 us T0) e) (17, (c, ()))) ∨
 ∃ mode' s' told', comeM w e.1 10001 mode s [] [e.2] = some (mode', (s', told')) ∧ told'.length ≤ 10000 ∧ s'.1.length = nRu w ∧ ∃ us', UL us' s'.2 ∧ us'.length ≤ 10 * (T0 ++ told').length ∧ Ev (fun k => perigeeref8_craft_come.f k (cft w mode s.1 us T0) e) (0, (cft w mode' s'.1 us' (T0 ++ told'), ())) := by
 have h := comeR_ev (at' := e.1) (ev0 := e.2) ok mk hT 10001 mode s [] us [] [e.2] (by simp) (by simp) hu hon (by simp) (by simpa using hl)
 simp only [List.append_nil, List.nil_append, List.length_nil] at h
 rcases h with ⟨c1, c, c2⟩ | ⟨mode', s', told', c1, c2, c3, us', c4, c5, c6⟩
 ·exact .inl ⟨c1, c, Ev.eq (fun k => perigeeref8_craft_come.f_eq _ _ _) c2⟩
 ·exact .inr ⟨mode', s', told', c1, c2, c3, us', c4, by rw [List.length_append]; exact c5, Ev.eq (fun k => perigeeref8_craft_come.f_eq _ _ _) c6⟩
end
end Go.Proofs.Ytadhpgecilhgnaa.Pure

-- YtadhpgecilhgnaaQ47
set_option linter.unusedVariables false
set_option linter.unusedSimpArgs false
namespace Go.Proofs.Ytadhpgecilhgnaa.Pure
open Go Go.Proofs.Ytadhpgecilhgnaa.A
def playM (w : DWatch) : List DEvent → S → OU → List DFired → Option (S × OU × List DFired)
 | [], mode, s, T => some (mode, (s, T))
 | e :: l, mode, s, T => match comeM w e.1 10001 mode s [] [e.2] with
  | none => none
  | some (mode', (s', told)) => playM w l mode' s' (T ++ told)
def ou0 (w : DWatch) : OU := (List.replicate (nRu w) true, fun _ => false)
def resP : Option (S × OU × List DFired) → List DFired × Int × Unit
 | none => ([], (17, ()))
 | some (_, (_, T)) => (T, (0, ()))
def EvG (l : List DEvent) (i : Nat) : Prop := (0 ≤ (l.getD i (Ty.dflt YEvent)).1 ∧ (l.getD i (Ty.dflt YEvent)).1 ≤ 1000000000000) ∧ isNm (l.getD i (Ty.dflt YEvent)).2 = true ∧ (i ≠ 0 → ¬ (l.getD i (Ty.dflt YEvent)).1 < (l.getD (i - 1) (Ty.dflt YEvent)).1)
def EvOk (l : List DEvent) : Prop := l.length ≤ 5000 ∧ ∀ i, i < l.length → EvG l i
theorem evg_step {l : List DEvent} {i : Nat} (hi : i < l.length) : (∀ j, i ≤ j → j < l.length → EvG l j) ↔ EvG l i ∧ ∀ j, i + 1 ≤ j → j < l.length → EvG l j :=
 ⟨fun h => ⟨h i (Nat.le_refl _) hi, fun j h1 h2 => h j (by omega) h2⟩, fun h j h1 h2 => by
  by_cases e : j = i
  ·exact e ▸ h.1
  ·exact h.2 j (by omega) h2⟩
theorem events_twin (l : List DEvent) (h1 : okT (.sl YEvent) l) : ∃ c : Int, Ev (fun k => monitor_CheckEvents.f k l) (c, ()) ∧ Ev (fun k => perigeeref8_CheckEvents.f k l) (c, ()) ∧ (c = 0 ↔ EvOk l) := by
 by_cases hl : 5000 < l.length
 ·exact ⟨2, Ev.eq (fun k => monitor_CheckEvents.f_eq _ _) (Ev.yes (decide_eq_true (by omega)) (Ev.now _)), Ev.eq (fun k => perigeeref8_CheckEvents.f_eq _ _) (Ev.yes (decide_eq_true (by omega)) (Ev.now _)), ⟨fun h => absurd h (by decide), fun h => absurd h.1 (by omega)⟩⟩
 have loop : ∀ (d i : Nat), i + d = l.length → ∃ c : Int, Ev (fun k => monitor_CheckEvents.c0 k l l (l.length : Int) (i : Int)) (c, ()) ∧ Ev (fun k => perigeeref8_CheckEvents.c0 k l (i : Int)) (c, ()) ∧ (c = 0 ↔ ∀ j, i ≤ j → j < l.length → EvG l j) := by
  intro d
  induction d with
  | zero =>
   intro i hi
   exact ⟨0, Ev.step (fun k => monitor_CheckEvents.c0_eq _ _ _ _ _) (Ev.no (by simp; omega) (Ev.now _)), Ev.step (fun k => perigeeref8_CheckEvents.c0_eq _ _ _) (Ev.no (by simp; omega) (Ev.now _)), fun _ j _ _ => by omega, fun _ => rfl⟩
  | succ d ih =>
   intro i hi
   have hil : i < l.length := by omega
   have hw : IntKind.wrap .i64 ((i : Int) + 1) = ((i + 1 : Nat) : Int) := by rw [w64 (by omega) (by omega)]; omega
   have hx := h1.2.2 _ (getD_mem (z := Ty.dflt YEvent) hil)
   have hG : EvG l i ↔ (0 ≤ (l.getD i (Ty.dflt YEvent)).1 ∧ (l.getD i (Ty.dflt YEvent)).1 ≤ 1000000000000) ∧ isNm (l.getD i (Ty.dflt YEvent)).2 = true ∧ (i ≠ 0 → ¬ (l.getD i (Ty.dflt YEvent)).1 < (l.getD (i - 1) (Ty.dflt YEvent)).1) := Iff.rfl
   rw [evg_step hil]
   generalize hcc : l.getD i (Ty.dflt YEvent) = x at hx hG
   obtain ⟨n1, _⟩ := name_ev x.2 hx.2
   have n2 := rname_ev x.2 hx.2
   by_cases a1 : (0 : Int) ≤ x.1 ∧ x.1 ≤ 1000000000000
   case neg =>
    refine ⟨1, Ev.step (fun k => monitor_CheckEvents.c0_eq _ _ _ _ _) (Ev.yes (decide_eq_true (by omega)) (Ev.yes (by omega) ?_)), Ev.step (fun k => perigeeref8_CheckEvents.c0_eq _ _ _) (Ev.yes (decide_eq_true (by omega)) (Ev.yes (by omega) ?_)), ⟨fun h => absurd h (by decide), fun h => absurd (hG.1 h.1).1 a1⟩⟩
    ·simp only [Int.toNat_natCast, hcc, in_ev, Option.bind_some]
     exact Ev.yes (by simp only [decide_eq_false a1]; rfl) (Ev.now _)
    ·simp only [Int.toNat_natCast, hcc, rwithin, Option.bind_some]
     exact Ev.yes (by simp only [decide_eq_false a1]; rfl) (Ev.now _)
   by_cases a2 : isNm x.2 = true
   case neg =>
    refine ⟨5, Ev.step (fun k => monitor_CheckEvents.c0_eq _ _ _ _ _) (Ev.yes (decide_eq_true (by omega)) (Ev.yes (by omega) ?_)), Ev.step (fun k => perigeeref8_CheckEvents.c0_eq _ _ _) (Ev.yes (decide_eq_true (by omega)) (Ev.yes (by omega) ?_)), ⟨fun h => absurd h (by decide), fun h => absurd (hG.1 h.1).2.1 a2⟩⟩
    ·simp only [Int.toNat_natCast, hcc, in_ev, Option.bind_some]
     exact Ev.no (by simp only [decide_eq_true a1]; simp) (Ev.bind n1 (Ev.yes (by simpa using a2) (Ev.now _)))
    ·simp only [Int.toNat_natCast, hcc, rwithin, Option.bind_some]
     exact Ev.no (by simp only [decide_eq_true a1]; simp) (Ev.yes (by omega) (Ev.bind n2 (Ev.yes (by simpa using a2) (Ev.now _))))
   obtain ⟨c, c1, c2, c3⟩ := ih (i + 1) (by omega)
   by_cases i0 : i = 0
   ·refine ⟨c, Ev.step (fun k => monitor_CheckEvents.c0_eq _ _ _ _ _) (Ev.yes (decide_eq_true (by omega)) (Ev.yes (by omega) ?_)), Ev.step (fun k => perigeeref8_CheckEvents.c0_eq _ _ _) (Ev.yes (decide_eq_true (by omega)) (Ev.yes (by omega) ?_)), c3.trans ⟨fun h => ⟨hG.2 ⟨a1, a2, fun e => absurd i0 e⟩, h⟩, fun h => h.2⟩⟩
    ·simp only [Int.toNat_natCast, hcc, in_ev, Option.bind_some, hw]
     exact Ev.no (by simp only [decide_eq_true a1]; simp) (Ev.bind n1 (Ev.no (by simp [a2]) (Ev.no (by simp [i0]) c1)))
    ·simp only [Int.toNat_natCast, hcc, rwithin, Option.bind_some, hw]
     exact Ev.no (by simp only [decide_eq_true a1]; simp) (Ev.yes (by omega) (Ev.bind n2 (Ev.no (by simp [a2]) (Ev.no (by simp [i0]) c2))))
   have hp := wpred i0 (by omega)
   by_cases l1 : x.1 < (l.getD (i - 1) (Ty.dflt YEvent)).1
   ·refine ⟨8, Ev.step (fun k => monitor_CheckEvents.c0_eq _ _ _ _ _) (Ev.yes (decide_eq_true (by omega)) (Ev.yes (by omega) ?_)), Ev.step (fun k => perigeeref8_CheckEvents.c0_eq _ _ _) (Ev.yes (decide_eq_true (by omega)) (Ev.yes (by omega) ?_)), ⟨fun h => absurd h (by decide), fun h => absurd l1 ((hG.1 h.1).2.2 i0)⟩⟩
    ·simp only [Int.toNat_natCast, hcc, in_ev, Option.bind_some, hw, hp]
     exact Ev.no (by simp only [decide_eq_true a1]; simp) (Ev.bind n1 (Ev.no (by simp [a2]) (Ev.yes (decide_eq_true (by omega)) (Ev.yes (by omega) (Ev.yes (decide_eq_true l1) (Ev.now _))))))
    ·simp only [Int.toNat_natCast, hcc, rwithin, Option.bind_some, hw, hp]
     exact Ev.no (by simp only [decide_eq_true a1]; simp) (Ev.yes (by omega) (Ev.bind n2 (Ev.no (by simp [a2]) (Ev.yes (decide_eq_true (by omega)) (Ev.yes (by omega) (Ev.yes (by omega) (Ev.yes (decide_eq_true l1) (Ev.now _))))))))
   ·refine ⟨c, Ev.step (fun k => monitor_CheckEvents.c0_eq _ _ _ _ _) (Ev.yes (decide_eq_true (by omega)) (Ev.yes (by omega) ?_)), Ev.step (fun k => perigeeref8_CheckEvents.c0_eq _ _ _) (Ev.yes (decide_eq_true (by omega)) (Ev.yes (by omega) ?_)), c3.trans ⟨fun h => ⟨hG.2 ⟨a1, a2, fun _ => l1⟩, h⟩, fun h => h.2⟩⟩
    ·simp only [Int.toNat_natCast, hcc, in_ev, Option.bind_some, hw, hp]
     exact Ev.no (by simp only [decide_eq_true a1]; simp) (Ev.bind n1 (Ev.no (by simp [a2]) (Ev.yes (decide_eq_true (by omega)) (Ev.yes (by omega) (Ev.no (fun h => l1 (of_decide_eq_true h)) c1)))))
    ·simp only [Int.toNat_natCast, hcc, rwithin, Option.bind_some, hw, hp]
     exact Ev.no (by simp only [decide_eq_true a1]; simp) (Ev.yes (by omega) (Ev.bind n2 (Ev.no (by simp [a2]) (Ev.yes (decide_eq_true (by omega)) (Ev.yes (by omega) (Ev.yes (by omega) (Ev.no (fun h => l1 (of_decide_eq_true h)) c2)))))))
 obtain ⟨c, c1, c2, c3⟩ := loop l.length 0 (by omega)
 exact ⟨c, Ev.eq (fun k => monitor_CheckEvents.f_eq _ _) (Ev.no (fun h => hl (by have := of_decide_eq_true h; omega)) c1), Ev.eq (fun k => perigeeref8_CheckEvents.f_eq _ _) (Ev.no (fun h => hl (by have := of_decide_eq_true h; omega)) c2), c3.trans ⟨fun h => ⟨by omega, fun i hi => h i (by omega) hi⟩, fun h i _ hi => h.2 i hi⟩⟩
section
variable {w : DWatch} {to : List ((S × S) × S)} {ru : List (S × List Int)}
theorem pplay_loop (ok : RulesOk w) (hto : PTo w.2.1 to) (hru : PRu w (nRu w) ru) (l : List DEvent) (hl : l.length ≤ 5000) : ∀ (d i : Nat) (mode : S) (s : OU) (um : List (S × Bool)) (T : List DFired), i + d = l.length → UM um s.2 → s.1.length = nRu w → T.length ≤ 10000 * i →
 Ev (fun k => monitor_Play.c0 k mode to ru w.1 w.2.1 w.2.2.1 w.2.2.2 s.1 um T l (l.length : Int) (i : Int)) (resP (playM w (l.drop i) mode s T)) := by
 intro d
 induction d with
 | zero =>
  intro i mode s um T hi hum hon hT
  rw [List.drop_of_length_le (by omega)]
  exact Ev.step (fun k => monitor_Play.c0_eq _ _ _ _ _ _ _ _ _ _ _ _ _ _) (Ev.no (by simp; omega) (Ev.now _))
 | succ d ih =>
  intro i mode s um T hi hum hon hT
  have hil : i < l.length := by omega
  have hw : IntKind.wrap .i64 ((i : Int) + 1) = ((i + 1 : Nat) : Int) := by rw [w64 (by omega) (by omega)]; omega
  have hg : l.getD i (Ty.dflt YEvent) = l[i] := getD_nat _ _ _ hil
  rw [List.drop_eq_getElem_cons hil]
  generalize l[i] = e at hg
  refine Ev.step (fun k => monitor_Play.c0_eq _ _ _ _ _ _ _ _ _ _ _ _ _ _) (Ev.yes (decide_eq_true (by omega)) (Ev.yes (by omega) ?_))
  simp only [Int.toNat_natCast, hg, hw]
  rcases pcome_ev ok hto hru mode s um e hum hon with ⟨c1, p, c2⟩ | ⟨mode', s', told', c1, c2, c3, um', c4, c5⟩
  ·have : playM w (e :: l.drop (i + 1)) mode s T = none := by simp only [playM, c1]
   rw [this]
   exact Ev.bind c2 (Ev.yes rfl (Ev.now _))
  ·have : playM w (e :: l.drop (i + 1)) mode s T = playM w (l.drop (i + 1)) mode' s' (T ++ told') := by simp only [playM, c1]
   rw [this]
   exact Ev.bind c5 (Ev.no (by simp) (Ev.yes (by simp only; omega) (ih (i + 1) mode' s' um' (T ++ told') (by omega) c4 c3 (by rw [List.length_append]; omega))))
theorem rplay_loop (ok : RulesOk w) (mk : ModesOk w) (l : List DEvent) (hl : l.length ≤ 5000) : ∀ (d i : Nat) (mode : S) (s : OU) (us : List S) (T : List DFired), i + d = l.length → UL us s.2 → s.1.length = nRu w → T.length ≤ 10000 * i → us.length ≤ 10 * T.length →
 Ev (fun k => perigeeref8_Play.c0 k l w.1 w.2.1 w.2.2.1 w.2.2.2 mode s.1 us T (i : Int)) (resP (playM w (l.drop i) mode s T)) := by
 intro d
 induction d with
 | zero =>
  intro i mode s us T hi hu hon hT hU
  rw [List.drop_of_length_le (by omega)]
  exact Ev.step (fun k => perigeeref8_Play.c0_eq _ _ _ _ _ _ _ _ _ _ _) (Ev.no (by simp; omega) (Ev.now _))
 | succ d ih =>
  intro i mode s us T hi hu hon hT hU
  have hil : i < l.length := by omega
  have hw : IntKind.wrap .i64 ((i : Int) + 1) = ((i + 1 : Nat) : Int) := by rw [w64 (by omega) (by omega)]; omega
  have hg : l.getD i (Ty.dflt YEvent) = l[i] := getD_nat _ _ _ hil
  rw [List.drop_eq_getElem_cons hil]
  generalize l[i] = e at hg
  refine Ev.step (fun k => perigeeref8_Play.c0_eq _ _ _ _ _ _ _ _ _ _ _) (Ev.yes (decide_eq_true (by omega)) (Ev.yes (by omega) ?_))
  simp only [Int.toNat_natCast, hg, hw]
  rcases rcome_ev ok mk (by omega) mode s us e hu hon hU with ⟨c1, c, c2⟩ | ⟨mode', s', told', c1, c2, c3, us', c4, c5, c6⟩
  ·have : playM w (e :: l.drop (i + 1)) mode s T = none := by simp only [playM, c1]
   rw [this]
   exact Ev.bind c2 (Ev.yes rfl (Ev.now _))
  ·have : playM w (e :: l.drop (i + 1)) mode s T = playM w (l.drop (i + 1)) mode' s' (T ++ told') := by simp only [playM, c1]
   rw [this]
   exact Ev.bind c6 (Ev.no (by simp) (ih (i + 1) mode' s' us' (T ++ told') (by omega) c4 c3 (by rw [List.length_append]; omega) c5))
theorem um0 : UM [] (fun _ => false) := ⟨fun u => rfl, by simp⟩
theorem ul0 : UL [] (fun _ => false) := ⟨List.Pairwise.nil, fun u => by simp⟩
theorem pplay_ev (l : List DEvent) {c e : Int} (h1 : Ev (fun k => monitor_CheckWatch.f k w) (c, ())) (h3 : Ev (fun k => monitor_CheckEvents.f k l) (e, ())) (ok : c = 0 → RulesOk w ∧ ModesOk w) (hl : e = 0 → EvOk l) :
 Ev (fun k => monitor_Play.f k w l) (if firstN [c, e] = 0 then resP (playM w l w.2.2.1 (ou0 w) []) else ([], (firstN [c, e], ()))) := by
 refine Ev.eq (fun k => monitor_Play.f_eq _ _ _) (Ev.bind h1 (Ev.bind h3 (Ev.bind (first_ev [c, e] (by simp)) ?_)))
 by_cases h0 : firstN [c, e] = 0
 ·rw [if_pos h0]
  have hz := firstN_zero.1 h0
  have hc : c = 0 := hz c (by simp)
  have he : e = 0 := hz e (by simp)
  obtain ⟨rk, mk⟩ := ok hc
  obtain ⟨to, ru, n1, n2, n3⟩ := newPlayer_ev w mk.cl rk.rl
  refine Ev.no (by simp [h0]) (Ev.bind n3 (Ev.yes rfl ?_))
  exact pplay_loop rk n1 n2 l (hl he).1 l.length 0 w.2.2.1 (ou0 w) [] [] (by omega) um0 (by simp [ou0]) (by simp)
 ·rw [if_neg h0]
  exact Ev.yes (by simpa using h0) (Ev.now _)
theorem rplay_ev (l : List DEvent) {c e : Int} (h1 : Ev (fun k => perigeeref8_CheckWatch.f k w) (c, ())) (h3 : Ev (fun k => perigeeref8_CheckEvents.f k l) (e, ())) (ok : c = 0 → RulesOk w ∧ ModesOk w) (hl : e = 0 → EvOk l) :
 Ev (fun k => perigeeref8_Play.f k w l) (if firstN [c, e] = 0 then resP (playM w l w.2.2.1 (ou0 w) []) else ([], (firstN [c, e], ()))) := by
 refine Ev.eq (fun k => perigeeref8_Play.f_eq _ _ _) (Ev.bind h1 ?_)
 by_cases hc : c = 0
 case neg =>
  have : firstN [c, e] = c := by simp [firstN, hc]
  rw [this, if_neg hc]
  exact Ev.yes (by simpa using hc) (Ev.now _)
 refine Ev.no (by simp [hc]) (Ev.bind h3 ?_)
 by_cases he : e = 0
 case neg =>
  have : firstN [c, e] = e := by simp [firstN, hc, he]
  rw [this, if_neg he]
  exact Ev.yes (by simpa using he) (Ev.now _)
 have : firstN [c, e] = 0 := by simp [firstN, hc, he]
 rw [if_pos this]
 obtain ⟨rk, mk⟩ := ok hc
 refine Ev.no (by simp [he]) (Ev.bind (newCraft_ev w rk.rl) (Ev.yes rfl ?_))
 exact rplay_loop rk mk l (hl he).1 l.length 0 w.2.2.1 (ou0 w) [] [] (by omega) ul0 (by simp [ou0]) (by simp) (by simp)
end
theorem comeM_len {w : DWatch} {at' : Int} : ∀ (n : Nat) (mode : S) (s : OU) (told : List DFired) (q : List S), told.length ≤ 10000 → ∀ r, comeM w at' n mode s told q = some r → r.2.2.length ≤ 10000
 | _, mode, s, told, [], h, r, e => by
  have : some (mode, (s, told)) = some r := by rw [← e]; unfold comeM; rfl
  cases this; exact h
 | 0, _, _, _, _ :: _, _, r, e => by cases e
 | n + 1, mode, s, told, ev :: q, h, r, e => by
  rw [comeM] at e
  split at e
  ·cases e
  ·next hb => exact comeM_len n _ _ _ _ (Nat.le_of_not_lt hb) r e
theorem playM_len {w : DWatch} : ∀ (l : List DEvent) (mode : S) (s : OU) (T : List DFired), ∀ r, playM w l mode s T = some r → r.2.2.length ≤ T.length + 10000 * l.length
 | [], mode, s, T, r, h => by cases h; simp
 | e :: l, mode, s, T, r, h => by
  simp only [playM] at h
  cases hc : comeM w e.1 10001 mode s [] [e.2] with
  | none => rw [hc] at h; cases h
  | some q =>
   obtain ⟨mode', s', told⟩ := q
   rw [hc] at h
   have h1 : told.length ≤ 10000 := comeM_len 10001 mode s [] [e.2] (by simp) _ hc
   have h2 := playM_len l mode' s' (T ++ told) r h
   rw [List.length_append] at h2
   rw [List.length_cons]
   omega
end Go.Proofs.Ytadhpgecilhgnaa.Pure

-- YtadhpgecilhgnaaQ48
set_option linter.unusedVariables false
set_option linter.unusedSimpArgs false
namespace Go.Proofs.Ytadhpgecilhgnaa.Pure
open Go Go.Proofs.Ytadhpgecilhgnaa.A
theorem plays (w : DWatch) (l : List DEvent) (h0 : okT YWatch w) (h1 : okT (.sl YEvent) l) : ∃ (c e : Int) (r : List DFired × Int × Unit), Ev (fun k => monitor_CheckWatch.f k w) (c, ()) ∧ Ev (fun k => perigeeref8_CheckWatch.f k w) (c, ()) ∧ Ev (fun k => monitor_CheckEvents.f k l) (e, ()) ∧ Ev (fun k => perigeeref8_CheckEvents.f k l) (e, ()) ∧
 (c = 0 → RulesOk w ∧ ModesOk w) ∧ (e = 0 ↔ EvOk l) ∧ r = (if firstN [c, e] = 0 then resP (playM w l w.2.2.1 (ou0 w) []) else ([], (firstN [c, e], ()))) ∧ r.1.length ≤ 50000000 ∧ Ev (fun k => monitor_Play.f k w l) r ∧ Ev (fun k => perigeeref8_Play.f k w l) r := by
 obtain ⟨c, q1, q2⟩ := watch_twin w h0
 have ok : c = 0 → RulesOk w ∧ ModesOk w := fun hc => by
  obtain ⟨q, k1, k2⟩ := watch_ev w h0
  have e := k1.unique q1
  exact ⟨watch_rules w h0 q1 hc, k2 (by rw [e]; exact hc)⟩
 obtain ⟨e, e1, e2, e3⟩ := events_twin l h1
 refine ⟨c, e, _, q1, q2, e1, e2, ok, e3, rfl, ?_, pplay_ev l q1 e1 ok e3.1, rplay_ev l q2 e2 ok e3.1⟩
 by_cases h : firstN [c, e] = 0
 ·rw [if_pos h]
  have he : e = 0 := firstN_zero.1 h e (by simp)
  have hl := (e3.1 he).1
  cases hp : playM w l w.2.2.1 (ou0 w) [] with
  | none => exact Nat.zero_le _
  | some r =>
   have := playM_len l _ _ _ r hp
   show r.2.2.length ≤ _
   simp only [List.length_nil] at this
   omega
 ·rw [if_neg h]
  exact Nat.zero_le _
end Go.Proofs.Ytadhpgecilhgnaa.Pure

-- YtadhpgecilhgnaaQ49
set_option linter.unusedVariables false
set_option linter.unusedSimpArgs false
namespace Go.Proofs.Ytadhpgecilhgnaa.Pure
open Go Go.Proofs.Ytadhpgecilhgnaa.A
section
variable {w : DWatch} {to : List ((S × S) × S)} {ru : List (S × List Int)}
end
end Go.Proofs.Ytadhpgecilhgnaa.Pure

-- YtadhpgecilhgnaaQ50
set_option linter.unusedVariables false
set_option linter.unusedSimpArgs false
namespace Go.Proofs.Ytadhpgecilhgnaa.Pure
open Go Go.Proofs.Ytadhpgecilhgnaa.A
section
variable {w : DWatch} {at' : Int} (G Q : S → Prop)
def Tell (w : DWatch) (t : DFired) : Prop := G t.2.2.1 ∧ Q t.2.1 ∧ (t.2.2.2 = [] ∨ ∃ i, i < nRu w ∧ (rul w i).1 = t.2.2.2 ∧ (rul w i).2.1 = t.2.1)
variable {G Q}
theorem raiM_mem {l : List DAct} {x : S} (h : x ∈ raiM l) : ∃ a ∈ l, a.1 = 1 ∧ a.2.1 = x := by
 unfold raiM at h
 obtain ⟨a, ha, e⟩ := List.mem_map.1 h
 rw [List.mem_filter] at ha
 exact ⟨a, ha.1, by simpa using ha.2, e⟩
theorem rules_tell {ev mode : S} (hq : ∀ i, i < nRu w → (rul w i).2.1 = ev → ∀ x ∈ raiM (rul w i).2.2.2.2, Q x) (g : G mode) (qe : Q ev) : ∀ (l : List Nat) (r : RS), (∀ i ∈ l, i < nRu w ∧ (rul w i).2.1 = ev) → (∀ t ∈ r.2.1, Tell G Q w t) → (∀ x ∈ r.2.2, Q x) →
 (∀ t ∈ (l.foldl (ruleM w at' ev mode) r).2.1, Tell G Q w t) ∧ ∀ x ∈ (l.foldl (ruleM w at' ev mode) r).2.2, Q x
 | [], r, _, h1, h2 => ⟨h1, h2⟩
 | i :: l, r, hl, h1, h2 => by
  rw [List.foldl_cons]
  refine rules_tell hq g qe l _ (fun j hj => hl j (by simp [hj])) (fun t ht => ?_) (fun x hx => ?_)
  ·rcases List.mem_append.1 (show t ∈ r.2.1 ++ [(at', (ev, (mode, (rul w i).1)))] from ht) with ht | ht
   ·exact h1 t ht
   ·simp only [List.mem_singleton] at ht
    subst ht
    exact ⟨g, qe, .inr ⟨i, (hl i (by simp)).1, rfl, (hl i (by simp)).2⟩⟩
  ·rcases List.mem_append.1 (show x ∈ r.2.2 ++ raiM (rul w i).2.2.2.2 from hx) with hx | hx
   ·exact h2 x hx
   ·exact hq i (hl i (by simp)).1 (hl i (by simp)).2 x hx
theorem fireM_mem {on : List Bool} {mode ev : S} {i : Nat} (h : i ∈ fireM w on mode ev) : i < nRu w ∧ (rul w i).2.1 = ev := by
 refine ⟨fireM_lt h, ?_⟩
 unfold fireM evR at h
 rw [List.mem_filter, List.mem_filter] at h
 simpa using h.1.2
theorem come_tell (ht : ∀ mode ev, G mode → Q ev → G (toM w.2.1 mode ev)) (hq : ∀ i, i < nRu w → Q (rul w i).2.1 → ∀ x ∈ raiM (rul w i).2.2.2.2, Q x) : ∀ (n : Nat) (mode : S) (s : OU) (told : List DFired) (q : List S), G mode → (∀ t ∈ told, Tell G Q w t) → (∀ x ∈ q, Q x) → ∀ r, comeM w at' n mode s told q = some r → G r.1 ∧ ∀ t ∈ r.2.2, Tell G Q w t
 | _, mode, s, told, [], g, h1, h2, r, e => by
  have : some (mode, (s, told)) = some r := by rw [← e]; unfold comeM; rfl
  cases this; exact ⟨g, h1⟩
 | 0, _, _, _, _ :: _, _, _, _, r, e => by cases e
 | n + 1, mode, s, told, ev :: q, g, h1, h2, r, e => by
  rw [comeM] at e
  split at e
  ·cases e
  ·next hb =>
   have qe : Q ev := h2 ev (by simp)
   obtain ⟨k1, k2⟩ := rules_tell (at' := at') (G := G) (Q := Q) (w := w) (ev := ev) (mode := mode) (fun i hi he => hq i hi (by rw [he]; exact qe)) g qe (fireM w s.1 mode ev) (s, (told ++ [(at', (ev, (mode, [])))], q)) (fun i hi => fireM_mem hi) (fun t ht => by
    rcases List.mem_append.1 (show t ∈ told ++ [(at', (ev, (mode, [])))] from ht) with ht | ht
    ·exact h1 t ht
    ·simp only [List.mem_singleton] at ht
     subst ht
     exact ⟨g, qe, .inl rfl⟩) (fun x hx => h2 x (by simp [show x ∈ q from hx]))
   exact come_tell ht hq n _ _ _ _ (ht mode ev g qe) k1 k2 r e
theorem play_tell (ht : ∀ mode ev, G mode → Q ev → G (toM w.2.1 mode ev)) (hq : ∀ i, i < nRu w → Q (rul w i).2.1 → ∀ x ∈ raiM (rul w i).2.2.2.2, Q x) : ∀ (l : List DEvent) (mode : S) (s : OU) (T : List DFired), G mode → (∀ t ∈ T, Tell G Q w t) → (∀ x ∈ l, Q x.2) → ∀ r, playM w l mode s T = some r → G r.1 ∧ ∀ t ∈ r.2.2, Tell G Q w t
 | [], mode, s, T, g, h1, _, r, h => by cases h; exact ⟨g, h1⟩
 | e :: l, mode, s, T, g, h1, h2, r, h => by
  simp only [playM] at h
  cases hc : comeM w e.1 10001 mode s [] [e.2] with
  | none => rw [hc] at h; cases h
  | some q =>
   rw [hc] at h
   obtain ⟨k1, k2⟩ := come_tell (at' := e.1) (G := G) (Q := Q) ht hq 10001 mode s [] [e.2] g (by simp) (by simpa using h2 e (by simp)) _ hc
   exact play_tell ht hq l _ _ _ k1 (fun t ht => (List.mem_append.1 ht).elim (h1 t) (k2 t)) (fun x hx => h2 x (by simp [hx])) r h
end
end Go.Proofs.Ytadhpgecilhgnaa.Pure

-- YtadhpgecilhgnaaQ14
set_option linter.unusedVariables false
set_option linter.unusedSimpArgs false
namespace Go.Proofs.Ytadhpgecilhgnaa.Pure
open Go Go.Proofs.Ytadhpgecilhgnaa.A

def lkZ {β : Type} : List (Int × β) → Int → Option β
 | [], _ => none
 | p :: m, k => if p.1 = k then some p.2 else lkZ m k
section
variable {σ : Ty}
end
abbrev Fz := List (Int × Int)
section
variable {nx : List (List Int)} {f : Nat}
end
end Go.Proofs.Ytadhpgecilhgnaa.Pure

-- YtadhpgecilhgnaaQ15
set_option linter.unusedVariables false
set_option linter.unusedSimpArgs false
namespace Go.Proofs.Ytadhpgecilhgnaa.Pure
open Go Go.Proofs.Ytadhpgecilhgnaa.A
section
variable {nx : List (List Int)} {f : Nat}
def mz (nx : List (List Int)) (far : Fz) : Nat := ((List.range nx.length).filter fun (i : Nat) => (lkZ far (i : Int)).isNone).length
end
end Go.Proofs.Ytadhpgecilhgnaa.Pure

-- YtadhpgecilhgnaaQ16
set_option linter.unusedVariables false
set_option linter.unusedSimpArgs false
namespace Go.Proofs.Ytadhpgecilhgnaa.Pure
open Go Go.Proofs.Ytadhpgecilhgnaa.A

end Go.Proofs.Ytadhpgecilhgnaa.Pure

-- YtadhpgecilhgnaaQ17
set_option linter.unusedVariables false
set_option linter.unusedSimpArgs false
namespace Go.Proofs.Ytadhpgecilhgnaa.Pure
open Go Go.Proofs.Ytadhpgecilhgnaa.A

end Go.Proofs.Ytadhpgecilhgnaa.Pure

-- YtadhpgecilhgnaaQ18
set_option linter.unusedVariables false
set_option linter.unusedSimpArgs false
namespace Go.Proofs.Ytadhpgecilhgnaa.Pure
open Go Go.Proofs.Ytadhpgecilhgnaa.A

abbrev nR (w : DWatch) : Nat := w.2.2.2.length
def Eg (w : DWatch) (i k : Nat) : Prop := Rai (rul w i) (rul w k).2.1
def Rn (w : DWatch) (f : Nat) : Nat → Nat → Prop
 | 0, i => i = f
 | d + 1, i => f ≤ i ∧ i < nR w ∧ ∃ k, f ≤ k ∧ k < nR w ∧ Eg w i k ∧ Rn w f d k
def Mn (w : DWatch) (f d k : Nat) : Prop := Rn w f d k ∧ ∀ e, 1 ≤ e → e < d → ¬ Rn w f e k
def Cand (w : DWatch) (f at_ left k : Nat) : Prop := f < k ∧ k < nR w ∧ Eg w at_ k ∧ Mn w f left k
inductive Gl (w : DWatch) (f : Nat) : Nat → Nat → List Int → Prop
 | nil (a : Nat) : Gl w f a 0 []
 | cons {a left k : Nat} {l : List Int} (h1 : Cand w f a (left + 1) k) (h2 : ∀ j, Cand w f a (left + 1) j → k ≤ j) (h3 : Gl w f k left l) : Gl w f a (left + 1) ((k : Int) :: l)
theorem Gl.len {w : DWatch} {f : Nat} : ∀ {d a : Nat} {l : List Int}, Gl w f a d l → l.length = d
 | 0, _, _, .nil _ => rfl
 | d + 1, _, _, .cons _ _ h => by simp [Gl.len h]
end Go.Proofs.Ytadhpgecilhgnaa.Pure

-- YtadhpgecilhgnaaQ19
set_option linter.unusedVariables false
set_option linter.unusedSimpArgs false
namespace Go.Proofs.Ytadhpgecilhgnaa.Pure
open Go Go.Proofs.Ytadhpgecilhgnaa.A

abbrev zs (Q : List Nat) : List Int := Q.map fun (k : Nat) => (k : Int)
end Go.Proofs.Ytadhpgecilhgnaa.Pure

-- YtadhpgecilhgnaaQ20
set_option linter.unusedVariables false
set_option linter.unusedSimpArgs false
namespace Go.Proofs.Ytadhpgecilhgnaa.Pure
open Go Go.Proofs.Ytadhpgecilhgnaa.A
section
variable {w : DWatch} {f : Nat}
end
end Go.Proofs.Ytadhpgecilhgnaa.Pure

-- YtadhpgecilhgnaaQ21
set_option linter.unusedVariables false
set_option linter.unusedSimpArgs false
namespace Go.Proofs.Ytadhpgecilhgnaa.Pure
open Go Go.Proofs.Ytadhpgecilhgnaa.A
section
variable {w : DWatch} {f : Nat} {ds : List Int}
end
end Go.Proofs.Ytadhpgecilhgnaa.Pure

-- YtadhpgecilhgnaaQ22
set_option linter.unusedVariables false
set_option linter.unusedSimpArgs false
namespace Go.Proofs.Ytadhpgecilhgnaa.Pure
open Go Go.Proofs.Ytadhpgecilhgnaa.A
section
variable {w : DWatch} {f : Nat} {ds : List Int}
end
end Go.Proofs.Ytadhpgecilhgnaa.Pure

-- YtadhpgecilhgnaaQ23
set_option linter.unusedVariables false
set_option linter.unusedSimpArgs false
namespace Go.Proofs.Ytadhpgecilhgnaa.Pure
open Go Go.Proofs.Ytadhpgecilhgnaa.A
section
variable {w : DWatch} {f : Nat}
end
end Go.Proofs.Ytadhpgecilhgnaa.Pure

-- YtadhpgecilhgnaaQ24
set_option linter.unusedVariables false
set_option linter.unusedSimpArgs false
namespace Go.Proofs.Ytadhpgecilhgnaa.Pure
open Go Go.Proofs.Ytadhpgecilhgnaa.A
section
variable {w : DWatch} {f : Nat}
end
end Go.Proofs.Ytadhpgecilhgnaa.Pure

-- YtadhpgecilhgnaaQ25
set_option linter.unusedVariables false
set_option linter.unusedSimpArgs false
namespace Go.Proofs.Ytadhpgecilhgnaa.Pure
open Go Go.Proofs.Ytadhpgecilhgnaa.A
section
variable {w : DWatch} {f : Nat}
end
end Go.Proofs.Ytadhpgecilhgnaa.Pure

-- YtadhpgecilhgnaaQ26
set_option linter.unusedVariables false
set_option linter.unusedSimpArgs false
namespace Go.Proofs.Ytadhpgecilhgnaa.Pure
open Go Go.Proofs.Ytadhpgecilhgnaa.A
section
variable {w : DWatch} {f : Nat}
end
end Go.Proofs.Ytadhpgecilhgnaa.Pure

-- YtadhpgecilhgnaaQ27
set_option linter.unusedVariables false
set_option linter.unusedSimpArgs false
namespace Go.Proofs.Ytadhpgecilhgnaa.Pure
open Go Go.Proofs.Ytadhpgecilhgnaa.A
section
variable {w : DWatch} {f : Nat}
end
end Go.Proofs.Ytadhpgecilhgnaa.Pure

-- YtadhpgecilhgnaaQ28
set_option linter.unusedVariables false
set_option linter.unusedSimpArgs false
namespace Go.Proofs.Ytadhpgecilhgnaa.Pure
open Go Go.Proofs.Ytadhpgecilhgnaa.A
section
variable {w : DWatch}
def Good (w : DWatch) (l : List Int) : Prop := l.length ≤ 400 ∧ ∀ v ∈ l, 0 ≤ v ∧ v < nR w
end
end Go.Proofs.Ytadhpgecilhgnaa.Pure

-- YtadhpgecilhgnaaQ29
set_option linter.unusedVariables false
set_option linter.unusedSimpArgs false
namespace Go.Proofs.Ytadhpgecilhgnaa.Pure
open Go Go.Proofs.Ytadhpgecilhgnaa.A
end Go.Proofs.Ytadhpgecilhgnaa.Pure

-- YtadhpgecilhgnaaQ30
set_option linter.unusedVariables false
set_option linter.unusedSimpArgs false
namespace Go.Proofs.Ytadhpgecilhgnaa.Pure
open Go Go.Proofs.Ytadhpgecilhgnaa.A
inductive CanE (w : DWatch) (l : List S) : S → Prop
 | ev {e : S} (h : e ∈ l) : CanE w l e
 | rs {i : Nat} {a : DAct} (hi : i < nR w) (h : CanE w l (rul w i).2.1) (ha : a ∈ (rul w i).2.2.2.2) (h1 : a.1 = 1) : CanE w l a.2.1
theorem CanE.closed {w : DWatch} {l : List S} {p : S → Prop} (h0 : ∀ e ∈ l, p e) (h1 : ∀ i, i < nR w → p (rul w i).2.1 → ∀ a ∈ (rul w i).2.2.2.2, a.1 = 1 → p a.2.1) {e : S} (h : CanE w l e) : p e := by
 induction h with
 | ev h => exact h0 _ h
 | rs hi _ ha h1' ih => exact h1 _ hi ih _ ha h1'
end Go.Proofs.Ytadhpgecilhgnaa.Pure

-- YtadhpgecilhgnaaQ31
set_option linter.unusedVariables false
set_option linter.unusedSimpArgs false
namespace Go.Proofs.Ytadhpgecilhgnaa.Pure
open Go Go.Proofs.Ytadhpgecilhgnaa.A
theorem never_events {w : DWatch} (l : List S) (hl : l.length ≤ 200) (ho : ∀ e ∈ l, e.length ≤ 140737488351232) (rl : w.2.2.2.length ≤ 200) :
 (∃ c : Int, Ev (fun k => monitor_Never.c0 k l w.1 w.2.1 w.2.2.1 w.2.2.2 [] l (l.length : Int) 0) ([], (c, ())) ∧ Ev (fun k => perigeeref8_Never.c0 k l w.1 w.2.1 w.2.2.1 w.2.2.2 0) ([], (c, ()))) ∨
 (∃ m : List (S × Bool), (∀ e, (lk m e).getD false = true ↔ e ∈ l) ∧ (∀ r, Ev (fun k => monitor_Never.c1 k w.1 w.2.1 w.2.2.1 w.2.2.2 m (List.replicate w.2.2.2.length false) true) r → Ev (fun k => monitor_Never.c0 k l w.1 w.2.1 w.2.2.1 w.2.2.2 [] l (l.length : Int) 0) r) ∧
  ∀ r, Ev (fun k => perigeeref8_Never.c1 k w.1 w.2.1 w.2.2.1 w.2.2.2 l (List.replicate w.2.2.2.length false) 0) r → Ev (fun k => perigeeref8_Never.c0 k l w.1 w.2.1 w.2.2.1 w.2.2.2 0) r) := by
 have loop : ∀ (d i : Nat) (m : List (S × Bool)), i + d = l.length → (∀ e, (lk m e).getD false = true ↔ e ∈ l.take i) →
  (∃ c : Int, Ev (fun k => monitor_Never.c0 k l w.1 w.2.1 w.2.2.1 w.2.2.2 m l (l.length : Int) (i : Int)) ([], (c, ())) ∧ Ev (fun k => perigeeref8_Never.c0 k l w.1 w.2.1 w.2.2.1 w.2.2.2 (i : Int)) ([], (c, ()))) ∨
  (∃ m' : List (S × Bool), (∀ e, (lk m' e).getD false = true ↔ e ∈ l) ∧ (∀ r, Ev (fun k => monitor_Never.c1 k w.1 w.2.1 w.2.2.1 w.2.2.2 m' (List.replicate w.2.2.2.length false) true) r → Ev (fun k => monitor_Never.c0 k l w.1 w.2.1 w.2.2.1 w.2.2.2 m l (l.length : Int) (i : Int)) r) ∧
   ∀ r, Ev (fun k => perigeeref8_Never.c1 k w.1 w.2.1 w.2.2.1 w.2.2.2 l (List.replicate w.2.2.2.length false) 0) r → Ev (fun k => perigeeref8_Never.c0 k l w.1 w.2.1 w.2.2.1 w.2.2.2 (i : Int)) r) := by
  intro d
  induction d with
  | zero =>
   intro i m hi hm
   rw [List.take_of_length_le (by omega)] at hm
   refine .inr ⟨m, hm, fun r e => Ev.step (fun k => monitor_Never.c0_eq _ _ _ _ _ _ _ _ _ _) (Ev.no (by simp; omega) (Ev.yes (by omega) (by rw [Int.toNat_natCast]; exact e))), fun r e => Ev.step (fun k => perigeeref8_Never.c0_eq _ _ _ _ _ _ _) (Ev.no (by simp; omega) (Ev.yes (by omega) (Ev.yes (by omega) (by rw [Int.toNat_natCast]; exact e))))⟩
  | succ d ih =>
   intro i m hi hm
   have hil : i < l.length := by omega
   have hw : IntKind.wrap .i64 ((i : Int) + 1) = ((i + 1 : Nat) : Int) := by rw [w64 (by omega) (by omega)]; omega
   have hx := ho _ (getD_mem (z := []) hil)
   have hg : l[i]? = some (l.getD i []) := by rw [getD_nat _ _ _ hil, List.getElem?_eq_getElem hil]
   generalize hcc : l.getD i [] = x at hx hg
   obtain ⟨n1, _⟩ := name_ev x hx
   have n2 := rname_ev x hx
   by_cases a1 : isNm x = true
   case neg =>
    refine .inl ⟨5, Ev.step (fun k => monitor_Never.c0_eq _ _ _ _ _ _ _ _ _ _) ?_, Ev.step (fun k => perigeeref8_Never.c0_eq _ _ _ _ _ _ _) ?_⟩
    ·simp only [Int.toNat_natCast, hcc]
     exact Ev.yes (decide_eq_true (by omega)) (Ev.yes (by omega) (Ev.bind n1 (Ev.yes (by simpa using a1) (Ev.now _))))
    ·simp only [Int.toNat_natCast, hcc]
     exact Ev.yes (decide_eq_true (by omega)) (Ev.yes (by omega) (Ev.bind n2 (Ev.yes (by simpa using a1) (Ev.now _))))
   have nxt := ih (i + 1) (mapPut .str .bool x true m) (by omega) (fun e => by
    rw [lk_put (σ := .bool), List.take_add_one, hg]
    split
    ·rename_i h
     subst h
     simp
    ·rename_i h
     rw [hm]
     simp [Ne.symm h])
   by_cases i0 : i = 0
   ·subst i0
    refine nxt.imp (fun ⟨c, c1, c2⟩ => ⟨c, Ev.step (fun k => monitor_Never.c0_eq _ _ _ _ _ _ _ _ _ _) ?_, Ev.step (fun k => perigeeref8_Never.c0_eq _ _ _ _ _ _ _) ?_⟩) (fun ⟨m', m1, m2, m3⟩ => ⟨m', m1, fun r e => Ev.step (fun k => monitor_Never.c0_eq _ _ _ _ _ _ _ _ _ _) ?_, fun r e => Ev.step (fun k => perigeeref8_Never.c0_eq _ _ _ _ _ _ _) ?_⟩)
    all_goals simp only [Int.toNat_natCast, hcc, hw]
    ·exact Ev.yes (decide_eq_true (by omega)) (Ev.yes (by omega) (Ev.bind n1 (Ev.no (by simp [a1]) (Ev.no (by simp) c1))))
    ·exact Ev.yes (decide_eq_true (by omega)) (Ev.yes (by omega) (Ev.bind n2 (Ev.no (by simp [a1]) (Ev.no (by simp) c2))))
    ·exact Ev.yes (decide_eq_true (by omega)) (Ev.yes (by omega) (Ev.bind n1 (Ev.no (by simp [a1]) (Ev.no (by simp) (m2 r e)))))
    ·exact Ev.yes (decide_eq_true (by omega)) (Ev.yes (by omega) (Ev.bind n2 (Ev.no (by simp [a1]) (Ev.no (by simp) (m3 r e)))))
   have hp := wpred i0 (by omega)
   by_cases l1 : lessS (l.getD (i - 1) []) x = true
   ·refine nxt.imp (fun ⟨c, c1, c2⟩ => ⟨c, Ev.step (fun k => monitor_Never.c0_eq _ _ _ _ _ _ _ _ _ _) ?_, Ev.step (fun k => perigeeref8_Never.c0_eq _ _ _ _ _ _ _) ?_⟩) (fun ⟨m', m1, m2, m3⟩ => ⟨m', m1, fun r e => Ev.step (fun k => monitor_Never.c0_eq _ _ _ _ _ _ _ _ _ _) ?_, fun r e => Ev.step (fun k => perigeeref8_Never.c0_eq _ _ _ _ _ _ _) ?_⟩)
    all_goals simp only [Int.toNat_natCast, hcc, hw, hp]
    ·exact Ev.yes (decide_eq_true (by omega)) (Ev.yes (by omega) (Ev.bind n1 (Ev.no (by simp [a1]) (Ev.yes (decide_eq_true (by omega)) (Ev.yes (by omega) (Ev.no (fun h => by rw [l1] at h; cases h) c1))))))
    ·exact Ev.yes (decide_eq_true (by omega)) (Ev.yes (by omega) (Ev.bind n2 (Ev.no (by simp [a1]) (Ev.yes (decide_eq_true (by omega)) (Ev.yes (by omega) (Ev.yes (by omega) (Ev.no (fun h => by rw [l1] at h; cases h) c2)))))))
    ·exact Ev.yes (decide_eq_true (by omega)) (Ev.yes (by omega) (Ev.bind n1 (Ev.no (by simp [a1]) (Ev.yes (decide_eq_true (by omega)) (Ev.yes (by omega) (Ev.no (fun h => by rw [l1] at h; cases h) (m2 r e)))))))
    ·exact Ev.yes (decide_eq_true (by omega)) (Ev.yes (by omega) (Ev.bind n2 (Ev.no (by simp [a1]) (Ev.yes (decide_eq_true (by omega)) (Ev.yes (by omega) (Ev.yes (by omega) (Ev.no (fun h => by rw [l1] at h; cases h) (m3 r e))))))))
   ·refine .inl ⟨8, Ev.step (fun k => monitor_Never.c0_eq _ _ _ _ _ _ _ _ _ _) ?_, Ev.step (fun k => perigeeref8_Never.c0_eq _ _ _ _ _ _ _) ?_⟩
    all_goals simp only [Int.toNat_natCast, hcc, hp]
    ·exact Ev.yes (decide_eq_true (by omega)) (Ev.yes (by omega) (Ev.bind n1 (Ev.no (by simp [a1]) (Ev.yes (decide_eq_true (by omega)) (Ev.yes (by omega) (Ev.yes (by simpa using l1) (Ev.now _)))))))
    ·exact Ev.yes (decide_eq_true (by omega)) (Ev.yes (by omega) (Ev.bind n2 (Ev.no (by simp [a1]) (Ev.yes (decide_eq_true (by omega)) (Ev.yes (by omega) (Ev.yes (by omega) (Ev.yes (by simpa using l1) (Ev.now _))))))))
 exact loop l.length 0 [] (by omega) (fun e => by simp [lk])
end Go.Proofs.Ytadhpgecilhgnaa.Pure

-- YtadhpgecilhgnaaQ32
set_option linter.unusedVariables false
set_option linter.unusedSimpArgs false
namespace Go.Proofs.Ytadhpgecilhgnaa.Pure
open Go Go.Proofs.Ytadhpgecilhgnaa.A
section
variable {w : DWatch} {l : List S}
abbrev canM (m : List (S × Bool)) (e : S) : Prop := (lk m e).getD false = true
structure NI (w : DWatch) (l : List S) (m : List (S × Bool)) (fi : List Bool) : Prop where
 len : fi.length = nR w
 a : ∀ e, canM m e → CanE w l e
 b : ∀ e ∈ l, canM m e
 c : ∀ i, i < nR w → fi.getD i false = true → canM m (rul w i).2.1 ∧ ∀ x ∈ (rul w i).2.2.2.2, x.1 = 1 → canM m x.2.1
open Classical in
noncomputable def nevers (w : DWatch) (l : List S) : List S := ((List.range (nR w)).filter fun i => decide (¬ CanE w l (rul w i).2.1)).map fun i => (rul w i).1
theorem ni_done {m : List (S × Bool)} {fi : List Bool} (h : NI w l m fi) (hc : ∀ i, i < nR w → fi.getD i false = true ∨ ¬ canM m (rul w i).2.1) {i : Nat} (hi : i < nR w) : fi.getD i false = true ↔ CanE w l (rul w i).2.1 := by
 have all : ∀ e, CanE w l e → canM m e := fun e he => he.closed (p := canM m) h.b fun j hj hp x hx h1 => by
  rcases hc j hj with h2 | h2
  ·exact (h.c j hj h2).2 x hx h1
  ·exact absurd hp h2
 constructor
 ·intro h1
  exact h.a _ (h.c i hi h1).1
 ·intro h1
  rcases hc i hi with h2 | h2
  ·exact h2
  ·exact absurd (all _ h1) h2
def unf (w : DWatch) (fi : List Bool) : Nat := ((List.range (nR w)).filter fun i => !(fi.getD i false)).length
theorem getB_set {fi : List Bool} {i j : Nat} (hi : i < fi.length) : (fi.set i true).getD j false = if i = j then true else fi.getD j false := by
 rw [List.getD_eq_getElem?_getD, List.getD_eq_getElem?_getD, List.getElem?_set]
 by_cases e : i = j
 ·subst e
  rw [if_pos rfl, if_pos rfl, if_pos hi]; rfl
 ·rw [if_neg e, if_neg e]
theorem unf_set {fi : List Bool} {i : Nat} (hl : fi.length = nR w) (hi : i < nR w) (hn : fi.getD i false = false) : unf w (fi.set i true) < unf w fi := by
 unfold unf
 refine filter_less (fun j _ hj => ?_) ⟨i, List.mem_range.2 hi, by rw [hn]; rfl, by rw [getB_set (by omega), if_pos rfl]; rfl⟩
 rw [getB_set (by omega)] at hj
 split at hj
 ·cases hj
 ·exact hj
open Classical in
theorem mnever_end (ok : RulesOk w) {m : List (S × Bool)} {fi : List Bool} (h : NI w l m fi) (hc : ∀ i, i < nR w → fi.getD i false = true ∨ ¬ canM m (rul w i).2.1) : Ev (fun k => monitor_Never.c3 k fi [] w.2.2.2 (w.2.2.2.length : Int) 0) (nevers w l, (0, ())) := by
 have rl := ok.rl
 have hnR : nR w = w.2.2.2.length := rfl
 have h := Ev.rng (σ := List S) (Ty.dflt YWatchRule) w.2.2.2 (by omega) (g := fun k s i => monitor_Never.c3 k fi s w.2.2.2 (w.2.2.2.length : Int) i) (fun k s i => monitor_Never.c3_eq _ _ _ _ _ _)
  (fun i s => s = ((List.range i).filter fun j => decide (¬ CanE w l (rul w j).2.1)).map fun j => (rul w j).1) (fun _ _ _ => (nevers w l, (0, ()))) (fun s hs => by rw [hs]; exact Ev.now _) (fun i x xs s hi hx hd hget hw hs next => by
   simp only [Int.toNat_natCast, hget, hw]
   have hsl : s.length ≤ 200 := by
    rw [hs, List.length_map]
    exact Nat.le_trans (List.length_filter_le _ _) (by rw [List.length_range]; omega)
   have key := ni_done h hc (i := i) (by omega)
   have hxi : rul w i = x := hget
   refine Ev.yes (by rw [h.len]; omega) ?_
   cases hf : fi.getD i false with
   | true =>
    have hcn := key.1 hf
    refine Ev.no (by simp) (next s ?_)
    rw [List.range_succ, List.filter_append, List.map_append, ← hs, List.filter_cons_of_neg (by simpa using hcn)]; simp
   | false =>
    have hcn : ¬ CanE w l (rul w i).2.1 := fun h' => by rw [key.2 h'] at hf; cases hf
    refine Ev.yes rfl (Ev.yes (by omega) (next _ ?_))
    rw [List.range_succ, List.filter_append, List.map_append, ← hs, List.filter_cons_of_pos (by simpa using hcn), ← hxi]; rfl) 0 [] (by omega) (by rfl)
 exact h
end
end Go.Proofs.Ytadhpgecilhgnaa.Pure

-- YtadhpgecilhgnaaQ33
set_option linter.unusedVariables false
set_option linter.unusedSimpArgs false
namespace Go.Proofs.Ytadhpgecilhgnaa.Pure
open Go Go.Proofs.Ytadhpgecilhgnaa.A
section
variable {w : DWatch} {l : List S}
theorem ni_fire {m m' : List (S × Bool)} {fi : List Bool} {i : Nat} (h : NI w l m fi) (hi : i < nR w) (hc : canM m (rul w i).2.1) (hm : ∀ e, canM m' e ↔ (canM m e ∨ ∃ a ∈ (rul w i).2.2.2.2, a.1 = 1 ∧ a.2.1 = e)) : NI w l m' (fi.set i true) := by
 refine ⟨by rw [List.length_set]; exact h.len, fun e he => ?_, fun e he => (hm e).2 (.inl (h.b e he)), fun j hj hf => ?_⟩
 ·rcases (hm e).1 he with h1 | ⟨a, a1, a2, a3⟩
  ·exact h.a e h1
  ·rw [← a3]
   exact .rs hi (h.a _ hc) a1 a2
 ·rw [getB_set (by rw [h.len]; exact hi)] at hf
  by_cases e : i = j
  ·subst e
   exact ⟨(hm _).2 (.inl hc), fun x hx h1 => (hm _).2 (.inr ⟨x, hx, h1, rfl⟩)⟩
  ·rw [if_neg e] at hf
   obtain ⟨c1, c2⟩ := h.c j hj hf
   exact ⟨(hm _).2 (.inl c1), fun x hx h1 => (hm _).2 (.inl (c2 x hx h1))⟩
theorem mnever_acts (ok : RulesOk w) {fi : List Bool} {i : Nat} (hi : i < nR w) {r : List S × Int × Unit} (m : List (S × Bool))
 (fin : ∀ m', (∀ e, canM m' e ↔ (canM m e ∨ ∃ a ∈ (rul w i).2.2.2.2, a.1 = 1 ∧ a.2.1 = e)) → Ev (fun k => monitor_Never.c2 k w.1 w.2.1 w.2.2.1 w.2.2.2 m' fi true w.2.2.2 (w.2.2.2.length : Int) (IntKind.wrap .i64 ((i : Int) + 1))) r) :
 Ev (fun k => monitor_Never.c5 k w.1 w.2.1 w.2.2.1 w.2.2.2 m fi true w.2.2.2 (w.2.2.2.length : Int) (i : Int) (rul w i).2.2.2.2 ((rul w i).2.2.2.2.length : Int) 0) r := by
 have al := (ok.ac i hi).1
 have h := Ev.rng (σ := List (S × Bool)) (Ty.dflt YAct) (rul w i).2.2.2.2 (by omega) (g := fun k s j => monitor_Never.c5 k w.1 w.2.1 w.2.2.1 w.2.2.2 s fi true w.2.2.2 (w.2.2.2.length : Int) (i : Int) (rul w i).2.2.2.2 ((rul w i).2.2.2.2.length : Int) j) (fun k s j => monitor_Never.c5_eq _ _ _ _ _ _ _ _ _ _ _ _ _ _)
  (fun j s => ∀ e, canM s e ↔ (canM m e ∨ ∃ a ∈ (rul w i).2.2.2.2.take j, a.1 = 1 ∧ a.2.1 = e)) (fun _ _ _ => r) (fun s hs => by
   rw [List.take_length] at hs
   exact fin s hs) (fun j a rest s hj ha hd hget hw hs next => by
   simp only [Int.toNat_natCast, hget, hw]
   have hja : (rul w i).2.2.2.2[j]? = some a := by
    have := congrArg (fun l => l[0]?) hd
    simpa using this
   have ht : (rul w i).2.2.2.2.take (j + 1) = (rul w i).2.2.2.2.take j ++ [a] := by rw [List.take_add_one, hja]; rfl
   by_cases h1 : a.1 = 1
   ·refine Ev.yes (decide_eq_true h1) (next _ fun e => ?_)
    unfold canM at hs ⊢
    rw [lk_put (σ := .bool), ht]
    by_cases h2 : a.2.1 = e
    ·rw [if_pos h2]
     simp only [Option.getD_some, true_iff]
     exact .inr ⟨a, List.mem_append_right _ (by simp), h1, h2⟩
    ·rw [if_neg h2, hs]
     refine or_congr Iff.rfl ⟨fun ⟨b, b1, b2⟩ => ⟨b, List.mem_append_left _ b1, b2⟩, fun ⟨b, b1, b2, b3⟩ => ?_⟩
     rcases List.mem_append.1 b1 with b1 | b1
     ·exact ⟨b, b1, b2, b3⟩
     ·simp at b1
      subst b1
      exact absurd b3 h2
   ·refine Ev.no (fun h => h1 (of_decide_eq_true h)) (next _ fun e => ?_)
    rw [hs, ht]
    refine or_congr Iff.rfl ⟨fun ⟨b, b1, b2⟩ => ⟨b, List.mem_append_left _ b1, b2⟩, fun ⟨b, b1, b2, b3⟩ => ?_⟩
    rcases List.mem_append.1 b1 with b1 | b1
    ·exact ⟨b, b1, b2, b3⟩
    ·simp at b1
     subst b1
     exact absurd b2 h1) 0 m (by omega) (fun e => by simp)
 exact h
theorem mnever_pass (ok : RulesOk w) : ∀ (d : Nat) (m : List (S × Bool)) (fi : List Bool), NI w l m fi → unf w fi ≤ d → Ev (fun k => monitor_Never.c1 k w.1 w.2.1 w.2.2.1 w.2.2.2 m fi true) (nevers w l, (0, ())) := by
 have rl := ok.rl
 have hnR : nR w = w.2.2.2.length := rfl
 have body : ∀ (m : List (S × Bool)) (fi : List Bool), NI w l m fi → (∀ m' fi', NI w l m' fi' → unf w fi' < unf w fi → Ev (fun k => monitor_Never.c1 k w.1 w.2.1 w.2.2.1 w.2.2.2 m' fi' true) (nevers w l, (0, ()))) → Ev (fun k => monitor_Never.c1 k w.1 w.2.1 w.2.2.1 w.2.2.2 m fi true) (nevers w l, (0, ())) := fun m fi h ih => by
  refine Ev.step (fun k => monitor_Never.c1_eq _ _ _ _ _ _ _ _) (Ev.yes rfl ?_)
  have hh := Ev.rng (σ := List (S × Bool) × List Bool × Bool) (Ty.dflt YWatchRule) w.2.2.2 (by omega) (g := fun k s i => monitor_Never.c2 k w.1 w.2.1 w.2.2.1 w.2.2.2 s.1 s.2.1 s.2.2 w.2.2.2 (w.2.2.2.length : Int) i) (fun k s i => monitor_Never.c2_eq _ _ _ _ _ _ _ _ _ _ _)
   (fun i s => NI w l s.1 s.2.1 ∧ (s.2.2 = true → unf w s.2.1 < unf w fi) ∧ (s.2.2 = false → s.1 = m ∧ s.2.1 = fi ∧ ∀ j, j < i → fi.getD j false = true ∨ ¬ canM m (rul w j).2.1) ∧ unf w s.2.1 ≤ unf w fi) (fun _ _ _ => (nevers w l, (0, ()))) (fun s hs => ?_) (fun i x xs s hi hx hd hget hw hs next => ?_) 0 (m, (fi, false)) (by omega) ⟨h, fun e => (by cases e), fun _ => ⟨rfl, rfl, fun j hj => by omega⟩, Nat.le_refl _⟩
  ·exact hh
  ·obtain ⟨s1, s2, s3⟩ := s
   obtain ⟨h1, h2, h3, _⟩ := hs
   cases s3 with
   | true => exact ih s1 s2 h1 (h2 rfl)
   | false =>
    obtain ⟨e1, e2, e3⟩ := h3 rfl
    simp only at e1 e2
    subst e1; subst e2
    refine Ev.step (fun k => monitor_Never.c1_eq _ _ _ _ _ _ _ _) (Ev.no (by simp) ?_)
    exact mnever_end ok h1 e3
  ·obtain ⟨s1, s2, s3⟩ := s
   obtain ⟨h1, h2, h3, h4⟩ := hs
   simp only at h1 h2 h3 h4
   simp only [Int.toNat_natCast, hget]
   have hxi : rul w i = x := hget
   refine Ev.yes (by rw [h1.len]; omega) ?_
   rw [get_lk (σ := .bool)]
   have skip : (s3 = false → fi.getD i false = true ∨ ¬ canM m (rul w i).2.1) → Ev (fun k => monitor_Never.c2 k w.1 w.2.1 w.2.2.1 w.2.2.2 s1 s2 s3 w.2.2.2 (w.2.2.2.length : Int) ((i : Int) + 1)) (nevers w l, (0, ())) := fun hk => next (s1, (s2, s3)) ⟨h1, h2, fun e => by
    obtain ⟨a, b, c⟩ := h3 e
    refine ⟨a, b, fun j hj => ?_⟩
    by_cases ej : j = i
    ·subst ej; exact hk e
    ·exact c j (by omega), h4⟩
   cases hf : s2.getD i false with
   | true =>
    refine Ev.yes rfl ?_
    rw [hw]
    exact skip fun e => by
     obtain ⟨_, b, _⟩ := h3 e
     rw [← b]; exact .inl hf
   | false =>
    refine Ev.no (by simp) ?_
    by_cases hc : (lk s1 x.2.1).getD false = true
    case neg =>
     refine Ev.yes (by simpa using hc) ?_
     rw [hw]
     exact skip fun e => by
      obtain ⟨a, _, _⟩ := h3 e
      rw [← a, hxi]; exact .inr hc
    refine Ev.no (by simp [hc]) (Ev.step (fun k => monitor_Never.c4_eq _ _ _ _ _ _ _ _ _ _ _ _ _ _ _ _) (Ev.yes (by rw [h1.len]; omega) ?_))
    rw [Int.toNat_natCast, ← hxi]
    refine mnever_acts ok (by omega) s1 fun m' hm' => ?_
    rw [hw]
    refine next (m', (s2.set i true, true)) ⟨ni_fire h1 (by omega) (by rw [hxi]; exact hc) hm', fun _ => ?_, fun e => (by cases e), ?_⟩
    ·have := unf_set (w := w) h1.len (show i < nR w by omega) hf
     show unf w (s2.set i true) < unf w fi
     omega
    ·have := unf_set (w := w) h1.len (show i < nR w by omega) hf
     show unf w (s2.set i true) ≤ unf w fi
     omega
 intro d
 induction d with
 | zero => exact fun m fi h hd => body m fi h fun m' fi' h' hlt => by omega
 | succ d ih => exact fun m fi h hd => body m fi h fun m' fi' h' hlt => ih m' fi' h' (by omega)
end
end Go.Proofs.Ytadhpgecilhgnaa.Pure

-- YtadhpgecilhgnaaQ34
set_option linter.unusedVariables false
set_option linter.unusedSimpArgs false
namespace Go.Proofs.Ytadhpgecilhgnaa.Pure
open Go Go.Proofs.Ytadhpgecilhgnaa.A
section
variable {w : DWatch} {l : List S}
theorem repB (n i : Nat) : (List.replicate n false).getD i false = false := by
 rw [List.getD_eq_getElem?_getD, List.getElem?_replicate]
 split <;> rfl
theorem mnever_start (ok : RulesOk w) {m : List (S × Bool)} (hm : ∀ e, (lk m e).getD false = true ↔ e ∈ l) : Ev (fun k => monitor_Never.c1 k w.1 w.2.1 w.2.2.1 w.2.2.2 m (List.replicate w.2.2.2.length false) true) (nevers w l, (0, ())) :=
 mnever_pass ok _ m _ ⟨by rw [List.length_replicate], fun e he => .ev ((hm e).1 he), fun e he => (hm e).2 he, fun i hi hf => by rw [repB] at hf; (cases hf)⟩ (Nat.le_refl _)
end
end Go.Proofs.Ytadhpgecilhgnaa.Pure

-- YtadhpgecilhgnaaQ51
set_option linter.unusedVariables false
set_option linter.unusedSimpArgs false
namespace Go.Proofs.Ytadhpgecilhgnaa.Pure
open Go Go.Proofs.Ytadhpgecilhgnaa.A
theorem wu64 {x : Int} (h : 0 ≤ x) (h' : x ≤ 18446744073709551615) : IntKind.wrap .u64 x = x := by
 have e1 : (2 : Int) ^ 64 = 18446744073709551616 := rfl
 simp only [IntKind.wrap, IntKind.bits, IntKind.signed, e1, Bool.false_and, Bool.false_eq_true, if_false]
 omega
theorem mid {i j : Nat} (h : i + j ≤ 1000000000000000) : IntKind.wrap .i64 (shrI .u64 (IntKind.wrap .u64 (IntKind.wrap .i64 ((i : Int) + (j : Int)))) 1) = (((i + j) / 2 : Nat) : Int) := by
 rw [w64 (x := (i : Int) + (j : Int)) (by omega) (by omega), wu64 (by omega) (by omega)]
 have : shrI .u64 ((i : Int) + (j : Int)) 1 = (((i + j) / 2 : Nat) : Int) := by
  show ((i : Int) + (j : Int)).fdiv 2 = _
  rw [Int.fdiv_eq_ediv_of_nonneg _ (by decide)]
  omega
 rw [this, w64 (by omega) (by omega)]
theorem less_ev (x y : S) (k : Nat) : cmp_Less_string.f k x y = some (lessS x y, ()) := by
 have n : ∀ (x : S) (k : Nat), cmp_isNaN_string.f k x = some (false, ()) := fun x k => by rw [cmp_isNaN_string.f_eq]; simp
 rw [cmp_Less_string.f_eq, n]
 rfl
theorem bs_ev (x : List S) (t : S) (hl : x.length ≤ 8796093022208) : ∃ (k : Nat) (b : Bool), k ≤ x.length ∧ (b = true → t ∈ x) ∧ Ev (fun n => slices_BinarySearch_string.f n x t) ((k : Int), (b, ())) := by
 have loop : ∀ (d i j : Nat), j ≤ i + d → i ≤ j → j ≤ x.length → ∃ (k : Nat) (b : Bool), k ≤ x.length ∧ (b = true → t ∈ x) ∧ Ev (fun n => slices_BinarySearch_string.c0 n x t (x.length : Int) (i : Int) (j : Int)) ((k : Int), (b, ())) := by
  have stop : ∀ i : Nat, i ≤ x.length → ∃ (k : Nat) (b : Bool), k ≤ x.length ∧ (b = true → t ∈ x) ∧ Ev (fun n => slices_BinarySearch_string.c0 n x t (x.length : Int) (i : Int) (i : Int)) ((k : Int), (b, ())) := by
   intro i hi
   by_cases h : i < x.length
   ·by_cases e : x.getD i [] = t
    ·refine ⟨i, true, hi, fun _ => e ▸ getD_mem (z := ([] : S)) h, Ev.step (fun n => slices_BinarySearch_string.c0_eq _ _ _ _ _ _) (Ev.no (by simp) (Ev.yes (decide_eq_true (by omega)) (Ev.yes (by omega) ?_)))⟩
     rw [Int.toNat_natCast]
     exact Ev.yes (decide_eq_true e) (Ev.now _)
    ·refine ⟨i, false, hi, fun h => (by cases h), Ev.step (fun n => slices_BinarySearch_string.c0_eq _ _ _ _ _ _) (Ev.no (by simp) (Ev.yes (decide_eq_true (by omega)) (Ev.yes (by omega) ?_)))⟩
     rw [Int.toNat_natCast]
     have nan : ∀ (y : S) (k : Nat), slices_isNaN_string.f k y = some (false, ()) := fun y k => by rw [slices_isNaN_string.f_eq]; simp
     simp only [nan, Option.bind_some]
     exact Ev.no (fun h' => e (of_decide_eq_true h')) (Ev.yes (by omega) (Ev.no (by simp) (Ev.now _)))
   ·exact ⟨i, false, hi, fun h => (by cases h), Ev.step (fun n => slices_BinarySearch_string.c0_eq _ _ _ _ _ _) (Ev.no (by simp) (Ev.no (fun h' => h (by have := of_decide_eq_true h'; omega)) (Ev.now _)))⟩
  intro d
  induction d with
  | zero =>
   intro i j h1 h2 h3
   have : i = j := by omega
   subst this
   exact stop i h3
  | succ d ih =>
   intro i j h1 h2 h3
   by_cases h : i = j
   ·subst h; exact stop i h3
   have hm := mid (i := i) (j := j) (by omega)
   have g : ∀ {r}, Ev (fun n => if lessS (x.getD ((i + j) / 2) []) t = true then slices_BinarySearch_string.c0 n x t (x.length : Int) (((i + j) / 2 + 1 : Nat) : Int) (j : Int) else slices_BinarySearch_string.c0 n x t (x.length : Int) (i : Int) (((i + j) / 2 : Nat) : Int)) r →
    Ev (fun n => slices_BinarySearch_string.c0 n x t (x.length : Int) (i : Int) (j : Int)) r := fun {r} hr => by
    refine Ev.step (fun n => slices_BinarySearch_string.c0_eq _ _ _ _ _ _) (Ev.yes (decide_eq_true (by omega)) ?_)
    have hw : IntKind.wrap .i64 ((((i + j) / 2 : Nat) : Int) + 1) = (((i + j) / 2 + 1 : Nat) : Int) := by rw [w64 (by omega) (by omega)]; omega
    simp only [hm, hw, less_ev, Int.toNat_natCast, Option.bind_some]
    exact Ev.yes (by omega) hr
   by_cases hb : lessS (x.getD ((i + j) / 2) []) t = true
   ·obtain ⟨k, b, k1, k2, k3⟩ := ih ((i + j) / 2 + 1) j (by omega) (by omega) h3
    exact ⟨k, b, k1, k2, g (Ev.yes hb k3)⟩
   ·obtain ⟨k, b, k1, k2, k3⟩ := ih i ((i + j) / 2) (by omega) (by omega) (by omega)
    exact ⟨k, b, k1, k2, g (Ev.no hb k3)⟩
 obtain ⟨k, b, k1, k2, k3⟩ := loop x.length 0 x.length (by omega) (by omega) (Nat.le_refl _)
 exact ⟨k, b, k1, k2, Ev.eq (fun n => slices_BinarySearch_string.f_eq _ _ _) k3⟩
theorem never_sub {w : DWatch} {c : Int} (l : List S) (ho : ∀ e ∈ l, e.length ≤ 140737488351232) (h0 : okT YWatch w) (h1 : Ev (fun k => monitor_CheckWatch.f k w) (c, ())) :
 ∃ r : List S × Int × Unit, r.1.length ≤ 200 ∧ (∀ s ∈ r.1, s ∈ nevers w l) ∧ (r.2.1 ≠ 0 → r.1 = []) ∧ Ev (fun k => monitor_Never.f k w l) r := by
 by_cases c0 : c = 0
 case neg => exact ⟨([], (c, ())), by simp, by simp, fun _ => rfl, Ev.eq (fun k => monitor_Never.f_eq _ _ _) (Ev.bind h1 (Ev.yes (by simpa using c0) (Ev.now _)))⟩
 have ok := watch_rules w h0 h1 c0
 by_cases hl : 200 < l.length
 ·exact ⟨([], (2, ())), by simp, by simp, fun _ => rfl, Ev.eq (fun k => monitor_Never.f_eq _ _ _) (Ev.bind h1 (Ev.no (by simp [c0]) (Ev.yes (decide_eq_true (by omega)) (Ev.now _))))⟩
 have a1 : ∀ r, Ev (fun k => monitor_Never.c0 k l w.1 w.2.1 w.2.2.1 w.2.2.2 [] l (l.length : Int) 0) r → Ev (fun k => monitor_Never.f k w l) r := fun r h => Ev.eq (fun k => monitor_Never.f_eq _ _ _) (Ev.bind h1 (Ev.no (by simp [c0]) (Ev.no (by simp; omega) h)))
 rcases never_events (w := w) l (by omega) ho ok.rl with ⟨c', c1, c2⟩ | ⟨m, m1, m2, m3⟩
 ·exact ⟨([], (c', ())), by simp, by simp, fun _ => rfl, a1 _ c1⟩
 ·refine ⟨(nevers w l, (0, ())), ?_, fun s hs => hs, fun h => absurd rfl h, a1 _ (m2 _ (mnever_start ok m1))⟩
  have rl := ok.rl
  have hnR : nR w = w.2.2.2.length := rfl
  show (nevers w l).length ≤ 200
  unfold nevers
  rw [List.length_map]
  exact Nat.le_trans (List.length_filter_le _ _) (by rw [List.length_range]; omega)
end Go.Proofs.Ytadhpgecilhgnaa.Pure

-- YtadhpgecilhgnaaPureWatchesNeverFire
set_option linter.unusedVariables false
set_option linter.unusedSimpArgs false
namespace Go.Proofs.Ytadhpgecilhgnaa.Pure
open Go Go.Proofs.Ytadhpgecilhgnaa.A
theorem ins_ev {l : List S} {k : Nat} {x : S} (hk : k ≤ l.length) (hl : l.length + 1 ≤ 8796093022208) (n : Nat) : slices_Insert_string.f n l (k : Int) [x] = some (l.take k ++ [x] ++ l.drop k, ()) := by
 show insS l (k : Int) [x] = _
 unfold insS
 rw [if_pos ⟨by omega, by omega, rfl, hl⟩, Int.toNat_natCast]
structure Gath (l : List DEvent) (i : Nat) (ev : List S) : Prop where
 len : ev.length ≤ i
 ok : ∀ e ∈ ev, e.length ≤ 140737488351232
 all : ∀ j, j < i → j < l.length → (l.getD j (Ty.dflt YEvent)).2 ∈ ev
theorem gather {w : DWatch} {l : List DEvent} (h1 : okT (.sl YEvent) l) {r : Bool × Unit} (fin : ∀ ev, Gath l l.length ev → Ev (fun k => perigeelaw8_WatchesNeverFire.c0 k l w.1 w.2.1 w.2.2.1 w.2.2.2 ev (l.length : Int)) r) :
 ∀ (d i : Nat) (ev : List S), i + d = l.length → Gath l i ev → Ev (fun k => perigeelaw8_WatchesNeverFire.c0 k l w.1 w.2.1 w.2.2.1 w.2.2.2 ev (i : Int)) r
 | 0, i, ev, hi, g => by
  have : i = l.length := by omega
  subst this
  exact fin ev g
 | d + 1, i, ev, hi, g => by
  have hil : i < l.length := by omega
  have hL : l.length * 24 ≤ 140737488351232 := h1.2.1
  have hw : IntKind.wrap .i64 ((i : Int) + 1) = ((i + 1 : Nat) : Int) := by rw [w64 (by omega) (by omega)]; omega
  have hx := h1.2.2 _ (getD_mem (z := Ty.dflt YEvent) hil)
  have hxl : (l.getD i (Ty.dflt YEvent)).2.length ≤ 140737488351232 := hx.2
  have gl := g.len
  obtain ⟨k, b, k1, k2, k3⟩ := bs_ev ev (l.getD i (Ty.dflt YEvent)).2 (by omega)
  refine Ev.step (fun k => perigeelaw8_WatchesNeverFire.c0_eq _ _ _ _ _ _ _ _) (Ev.yes (decide_eq_true (by omega)) (Ev.yes (by omega) ?_))
  rw [Int.toNat_natCast, hw]
  refine Ev.bind k3 ?_
  cases b with
  | true =>
   refine Ev.no (by simp) (gather h1 fin d (i + 1) ev (by omega) ⟨by omega, g.ok, fun j hj hjl => ?_⟩)
   by_cases e : j = i
   ·rw [e]; exact k2 rfl
   ·exact g.all j (by omega) hjl
  | false =>
   refine Ev.yes rfl (Ev.yes (by omega) ?_)
   simp only [ins_ev k1 (show ev.length + 1 ≤ 8796093022208 by omega), Option.bind_some]
   have mem : ∀ y, y ∈ ev.take k ++ [(l.getD i (Ty.dflt YEvent)).2] ++ ev.drop k ↔ y = (l.getD i (Ty.dflt YEvent)).2 ∨ y ∈ ev := fun y => by
    conv => rhs; rw [← List.take_append_drop k ev]
    simp only [List.mem_append, List.mem_singleton]
    constructor
    ·rintro ((h | h) | h)
     ·exact .inr (.inl h)
     ·exact .inl h
     ·exact .inr (.inr h)
    ·rintro (h | h | h)
     ·exact .inl (.inr h)
     ·exact .inl (.inl h)
     ·exact .inr h
   refine gather h1 fin d (i + 1) _ (by omega) ⟨?_, fun e he => ?_, fun j hj hjl => ?_⟩
   ·simp only [List.length_append, List.length_take, List.length_drop, List.length_singleton]; omega
   ·rcases (mem e).1 he with rfl | he
    ·exact hxl
    ·exact g.ok e he
   ·rw [mem]
    by_cases e : j = i
    ·rw [e]; exact .inl rfl
    ·exact .inr (g.all j (by omega) hjl)
theorem never_names {w : DWatch} (ok : RulesOk w) {ev : List S} {t : DFired} {G : S → Prop} (ht : Tell G (CanE w ev) w t) (hn : t.2.2.2 ≠ []) : t.2.2.2 ∉ nevers w ev := by
 intro hm
 unfold nevers at hm
 obtain ⟨j, hj, e⟩ := List.mem_map.1 hm
 rw [List.mem_filter, List.mem_range] at hj
 obtain ⟨hj1, hj2⟩ := hj
 have hj2 : ¬ CanE w ev (rul w j).2.1 := by simpa using hj2
 obtain ⟨i, i1, i2, i3⟩ := ht.2.2.resolve_left hn
 have e2 : (rul w j).1 = (rul w i).1 := e.trans i2.symm
 have a1 := (ridx_iff ok (show j < nRu w from hj1)).1 rfl
 have a2 := (ridx_iff ok i1).1 rfl
 rw [e2] at a1
 have : i = j := a2.symm.trans a1
 subst this
 exact hj2 (by rw [i3]; exact ht.2.1)
theorem WatchesNeverFire (w : DWatch) (l : List DEvent) (h0 : okT YWatch w) (h1 : okT (.sl YEvent) l) : ∃ n, perigeelaw8_WatchesNeverFire.f n w l = some (true, ()) := by
 refine Ev.rounds (g := fun k => perigeelaw8_WatchesNeverFire.f k w l) ?_
 obtain ⟨c, e, r, q1, q2, e1, e2, ok, ek, hr, hl, r1, r2⟩ := plays w l h0 h1
 refine Ev.eq (fun k => perigeelaw8_WatchesNeverFire.f_eq _ _ _) (gather h1 (fun ev g => ?_) l.length 0 [] (by omega) ⟨by simp, by simp, fun j hj => by omega⟩)
 obtain ⟨no, n1, n2, n3, n4⟩ := never_sub ev g.ok h0 q1
 refine Ev.step (fun k => perigeelaw8_WatchesNeverFire.c0_eq _ _ _ _ _ _ _ _) (Ev.no (by simp) (Ev.bind n4 ?_))
 by_cases hno : no.2.1 = 0
 case neg =>
  refine Ev.yes (by simp [hno]) (Ev.yes ?_ (Ev.bind awake_ev (Ev.now _)))
  rw [n3 hno]; rfl
 refine Ev.no (by simp [hno]) (Ev.bind r1 ?_)
 by_cases hz : r.2.1 = 0
 case neg =>
  refine Ev.yes (by simp [hz]) (Ev.yes ?_ (Ev.bind awake_ev (Ev.now _)))
  rw [hr]
  by_cases hf : firstN [c, e] = 0
  ·rw [if_pos hf] at hr ⊢
   cases hp : playM w l w.2.2.1 (ou0 w) [] with
   | none => rfl
   | some p => rw [hp] at hr; exact absurd (by rw [hr]; rfl) hz
  ·rw [if_neg hf]; rfl
 refine Ev.no (by simp [hz]) ?_
 have hf : firstN [c, e] = 0 := Classical.byContradiction fun hf => by
  rw [if_neg hf] at hr
  exact hf (by rw [hr] at hz; exact hz)
 have hzz := firstN_zero.1 hf
 obtain ⟨rk, mk⟩ := ok (hzz c (by simp))
 rw [if_pos hf] at hr
 cases hp : playM w l w.2.2.1 (ou0 w) [] with
 | none => rw [hp] at hr; exact absurd hz (by rw [hr]; decide)
 | some p =>
  obtain ⟨mode, s, T⟩ := p
  rw [hp] at hr
  have hr : r = (T, (0, ())) := hr
  subst hr
  obtain ⟨_, k2⟩ := play_tell (w := w) (G := fun _ => True) (Q := CanE w ev) (fun _ _ _ _ => trivial) (fun i hi hq x hx => by
   obtain ⟨a, ha, h1, h2⟩ := raiM_mem hx
   rw [← h2]
   exact CanE.rs hi hq ha h1) l w.2.2.1 (ou0 w) [] trivial (by simp) (fun x hx => by
   obtain ⟨j, hj, e⟩ := List.getElem_of_mem hx
   have := g.all j hj hj
   rw [getD_nat _ _ _ hj, e] at this
   exact CanE.ev this) _ hp
  have hl' : T.length ≤ 50000000 := hl
  have fin : ∀ (d i : Nat), i + d = T.length → Ev (fun k => perigeelaw8_WatchesNeverFire.c1 k no.1 T (i : Int)) (true, ()) := by
   intro d
   induction d with
   | zero => intro i hi; exact Ev.step (fun k => perigeelaw8_WatchesNeverFire.c1_eq _ _ _ _) (Ev.no (by simp; omega) (Ev.bind awake_ev (Ev.now _)))
   | succ d ih =>
    intro i hi
    have hil : i < T.length := by omega
    have hw : IntKind.wrap .i64 ((i : Int) + 1) = ((i + 1 : Nat) : Int) := by rw [w64 (by omega) (by omega)]; omega
    refine Ev.step (fun k => perigeelaw8_WatchesNeverFire.c1_eq _ _ _ _) (Ev.yes (decide_eq_true (by omega)) (Ev.yes (by omega) ?_))
    rw [hw, Int.toNat_natCast, getD_nat _ _ _ hil]
    by_cases hn : T[i].2.2.2 = []
    ·exact Ev.no (by simp [hn]) (ih (i + 1) (by omega))
    ·have := never_names rk (k2 T[i] (List.getElem_mem hil)) hn
     exact Ev.yes (by simp [hn]) (Ev.yes (by omega) (Ev.bind (contains_ev no.1 _ (by omega)) (Ev.no (by simpa using fun h => this (n2 _ h)) (ih (i + 1) (by omega)))))
  exact fin T.length 0 (by omega)
end Go.Proofs.Ytadhpgecilhgnaa.Pure
