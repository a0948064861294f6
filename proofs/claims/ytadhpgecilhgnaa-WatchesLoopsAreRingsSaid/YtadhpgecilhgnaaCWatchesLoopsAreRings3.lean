/- Of a ring of rules each one raises the event of the next one, the last one that of the first one, and it begins with its least name. -/
import Derived.Below
import Derived.ChangeArms
import Derived.ChangeSlices
import Derived.DataElems
import Derived.DataReads
import Derived.Ground.Names2Prog
import Derived.Ground.SlgnProg
import Derived.Laws.Strings
import Derived.Shelf.Slices.Cells
import Derived.Shelf.Slices.Clone
import Derived.Shelf.Slices.Empties2
import Derived.Shelf.Slices.Equal
import Derived.Shelf.Slices.In.SortNone
import Derived.Shelf.Slices.ReverseS
import Derived.Shelf.Slices.Turned
import Derived.Shelf.SlicesE.Clone
import Derived.Shelf.SlicesE.Reverse
import Derived.Shelf.Small.Bits
import Derived.Shelf.Sort.Plain
import Derived.Shelf.Strconv.Itoa0
import Derived.SizedLaws
import Derived.Sort.EncStr
import Derived.Sort.Grow
import Derived.Still
import Derived.Test.YtadhpgecilhgnaaChecked
import Derived.Test.YtadhpgecilhgnaaProg
import Derived.WideShapes
import Derived.Test.YtadhpgecilhgnaaCWatchesLoopsAreRings2
-- YtadhpgecilhgnaaCtl2
set_option linter.unusedVariables false
set_option linter.unusedSimpArgs false
namespace Go.Proofs.Ytadhpgecilhgnaa.A
open Go
section
variable {P : Program} {B : Base} {m m' : Md} {H H' : Hp} {w w' : World} {o : Oper} {a : Act} {E : Env} {tab : Nat → Option TI} {T : Nat → Option FunE} {N : Nat} {ops : Array Oper} {md : Region.Mode}

theorem evalO_put {E : Env} {dst : Option Nat} {v : AV} {x : Operand} (h : ∀ d, dst = some d → x ≠ .tmp d) : evalO (putE E dst v) x = evalO E x := by
 cases dst with
 | none => rfl
 | some d =>
  cases x with
  | tmp t => exact upd_other _ _ (fun e => h d rfl (e ▸ rfl))
  | _ => rfl
theorem way_congr {E E' : Env} (o : Oper) (h : ∀ x ∈ o.op.operands, evalO E x = evalO E' x) : way tab T E o = way tab T E' o := by
 obtain ⟨dst, op, type, pos, after, guard⟩ := o
 have pairs : ∀ ps : Array (Nat × Operand), (∀ x ∈ ps.map (·.2), evalO E x = evalO E' x) → (ps.toList.map fun p => (p.1, evalO E p.2)) = ps.toList.map fun p => (p.1, evalO E' p.2) := fun ps hp =>
  List.map_congr_left fun p hm => by rw [hp p.2 (Array.mem_map.2 ⟨p, by simpa using hm, rfl⟩)]
 cases op <;> simp only [Op.operands] at h <;> simp only [way]
 case build t ps => rw [pairs ps fun x hx => h x (by simpa using hx)]
 case buildSlice t n ps => rw [pairs ps fun x hx => h x (by simpa using hx)]
 case call c =>
  have hargs : c.args.toList.map (evalO E) = c.args.toList.map (evalO E') := List.map_congr_left fun x hx => h x (by simp [Call.operands]; exact .inr (by simpa using hx))
  rw [hargs]
  cases hc : c.callee with
  | value f => have hf := h f (by simp [Call.operands, hc]); simp only [hf]
  | invoke r m => rfl
  | builtin b => rfl
 case slice t x lo hi mx => cases lo <;> cases hi <;> cases mx <;> simp_all
 case makeMap t r => cases r <;> simp_all
 all_goals (first | rfl | (simp_all; done))
theorem way_put {dst : Option Nat} {v : AV} (h : ∀ d, dst = some d → d ∉ o.looksAt ops) : way tab T (putE E dst v) o = way tab T E o :=
 way_congr o fun x hx => evalO_put fun d hd hxd => h d hd (by
  subst hxd
  exact List.mem_append_left _ (List.mem_filterMap.2 ⟨.tmp d, by simpa using hx, rfl⟩))
theorem guard_put {dst : Option Nat} {v : AV} (h : ∀ d, dst = some d → d ∉ o.looksAt ops) : guardOf ops (putE E dst v) o = guardOf ops E o := by
 cases dst with
 | none => rfl
 | some d =>
  have hd := h d rfl
  unfold guardOf
  cases hg : o.guard with
  | none => rfl
  | some p =>
   obtain ⟨j, want⟩ := p
   simp only
   cases hj : ops[j]? with
   | none => rfl
   | some oj =>
    simp only
    cases hs : oj.dst with
    | none => rfl
    | some s =>
     have : s ≠ d := fun e => hd (by subst e; exact List.mem_append_right _ (by simp [hg, hj, hs]))
     simp only [putE]
     rw [upd_other _ _ this]

def StepTo (tab : Nat → Option TI) (T : Nat → Option FunE) (ops : Array Oper) (E : Env) (H : Hp) (o : Oper) (v : AV) (ups : List (Nat × Cell)) : Prop :=
 (guardOf ops E o).ok = true ∧ if (guardOf ops E o).on = true then ((way tab T E o).run (only H ((way tab T E o).rd ++ (way tab T E o).wr))).Can (fun x => x = (v, ups)) ∧ (∀ p ∈ ups, p.1 ∈ (way tab T E o).wr) else v = .undef ∧ ups = []
theorem StepTo.of {Q : Env × Hp → Prop} (h : (stepG tab T ops E H o).Can Q) : ∃ v ups, StepTo tab T ops E H o v ups ∧ Q (putE E o.dst v, putH H ups) := by
 obtain ⟨hk, h⟩ := stepG_out h
 unfold StepTo
 by_cases hon : (guardOf ops E o).on = true
 ·rw [if_pos hon] at h
  obtain ⟨r, h1, h2⟩ := Tst.can_out (Tst.can_bind h)
  obtain ⟨v, ups⟩ := r
  simp only at h2
  split at h2
  ·rename_i hall
   refine ⟨v, ups, ⟨hk, ?_⟩, h2⟩
   rw [if_pos hon]
   exact ⟨h1, fun p hp => memN_iff.1 (List.all_eq_true.1 hall p hp)⟩
  ·exact h2.elim
 ·rw [if_neg hon] at h
  exact ⟨.undef, [], ⟨hk, by rw [if_neg hon]; exact ⟨rfl, rfl⟩⟩, h⟩
theorem StepTo.to {Q : Env × Hp → Prop} {v : AV} {ups : List (Nat × Cell)} (h : StepTo tab T ops E H o v ups) (hq : Q (putE E o.dst v, putH H ups)) : (stepG tab T ops E H o).Can Q := by
 obtain ⟨hk, h⟩ := h
 refine stepG_of hk ?_
 split
 ·rename_i hon
  rw [if_pos hon] at h
  refine Tst.bind_out h.1 ?_
  have : (ups.all fun p => memN p.1 (way tab T E o).wr) = true := List.all_eq_true.2 fun p hp => memN_iff.2 (h.2 p hp)
  simp only [this]
  exact hq
 ·rename_i hon
  rw [if_neg hon] at h
  obtain ⟨rfl, rfl⟩ := h
  exact hq
theorem StepTo.keys {v : AV} {ups : List (Nat × Cell)} (h : StepTo tab T ops E H o v ups) : ∀ k ∈ ups.map (·.1), k ∈ (fpOf tab T ops E o).2 := by
 obtain ⟨_, h⟩ := h
 split at h
 ·intro k hk
  obtain ⟨p, hp, rfl⟩ := List.mem_map.1 hk
  exact h.2 p hp
 ·rw [h.2]; simp

theorem disj_iff {a b : List Nat} : disj a b = true ↔ ∀ x ∈ a, x ∉ b := by
 unfold disj
 rw [List.all_eq_true]
 refine forall_congr' fun x => forall_congr' fun _ => ?_
 rw [Bool.not_eq_true', memN_false]
theorem apartFp_iff {a b : Fp} : apartFp a b = true ↔ (∀ x ∈ a.2, x ∉ b.1 ++ b.2) ∧ (∀ x ∈ b.2, x ∉ a.1 ++ a.2) := by
 unfold apartFp
 rw [Bool.and_eq_true, disj_iff, disj_iff]
theorem apartFp_comm {a b : Fp} (h : apartFp a b = true) : apartFp b a = true := by rw [apartFp_iff] at *; exact ⟨h.2, h.1⟩
theorem only_put {ups : List (Nat × Cell)} {L : List Nat} (h : ∀ k ∈ ups.map (·.1), k ∉ L) : only (putH H ups) L = only H L := by
 funext k
 unfold only
 split
 ·rename_i hk
  exact putH_notin fun hkk => h k hkk (memN_iff.1 hk)
 ·rfl
theorem StepTo.swap {x y : Oper} {vx vy : AV} {ux uy : List (Nat × Cell)} (hap : x.apart ops y = true) (hfp : apartFp (fpOf tab T ops E x) (fpOf tab T ops E y) = true) (hx : StepTo tab T ops E H x vx ux)
 (hy : StepTo tab T ops (putE E x.dst vx) (putH H ux) y vy uy) : StepTo tab T ops E H y vy uy ∧ StepTo tab T ops (putE E y.dst vy) (putH H uy) x vx ux := by
 obtain ⟨h1, h2, h3⟩ := Oper.apart_spec hap
 obtain ⟨f1, f2⟩ := apartFp_iff.1 hfp
 have hy' : StepTo tab T ops E H y vy uy := by
  have kx := hx.keys
  unfold StepTo at hy ⊢
  rw [guard_put h1, way_put h1, only_put (L := (way tab T E y).rd ++ (way tab T E y).wr) fun k hk => f1 k (kx k hk)] at hy
  exact hy
 refine ⟨hy', ?_⟩
 have ky := hy'.keys
 unfold StepTo at hx ⊢
 rw [guard_put h3, way_put h3, only_put (L := (way tab T E x).rd ++ (way tab T E x).wr) fun k hk => f2 k (ky k hk)]
 exact hx
theorem putE_comm {E : Env} {x y : Option Nat} {u v : AV} (h : ∀ d, x = some d → y ≠ some d) : putE (putE E x u) y v = putE (putE E y v) x u := by
 cases x with
 | none => rfl
 | some d =>
  cases y with
  | none => rfl
  | some e => exact upd_comm _ _ _ (fun he => h d rfl (he ▸ rfl))
theorem putH_swap : ∀ {u v : List (Nat × Cell)} {H : Hp}, (∀ k ∈ u.map (·.1), k ∉ v.map (·.1)) → putH (putH H u) v = putH (putH H v) u
 | [], _, _, _ => rfl
 | p :: u, v, H, h => by
  rw [putH, putH_swap (fun k hk => h k (by simp at hk ⊢; exact .inr hk))]
  rw [putH_comm (h p.1 (by simp)), putH]

def Closed (md : Region.Mode) (ops : Array Oper) (listed : Array Bool) : Prop := ∀ (k : Nat) (o : Oper), ops[k]? = some o → listed.getD k false = true → ∀ e ∈ o.after, Region.binds md e = true → listed.getD e.on false = true
def Good (md : Region.Mode) (ops : Array Oper) (j i : Nat) : Prop := ∀ listed, Closed md ops listed → (∀ oj, ops[j]? = some oj → ∀ e ∈ oj.after, Region.binds md e = true → listed.getD e.on false = true) → listed.getD i false = true
def OkSeen (md : Region.Mode) (ops : Array Oper) (seen : List (Nat × Fp)) (j : Nat) (f : Fp) : Prop := ∀ p ∈ seen, Good md ops j p.1 ∨ apartFp p.2 f = true
def anyA (tab : Nat → Option TI) (T : Nat → Option FunE) (md : Region.Mode) (ops : Array Oper) (K : Env → Hp → Prop) : Nat → Array Bool → List (Nat × Fp) → Env → Hp → Prop
 | 0, listed, _, E, H => Region.ready md ops listed = [] ∧ K E H
 | fuel + 1, listed, seen, E, H => (Region.ready md ops listed = [] → K E H) ∧
  ∀ i ∈ Region.ready md ops listed, ∀ o, ops[i]? = some o → OkSeen md ops seen i (fpOf tab T ops E o) ∧ (stepG tab T ops E H o).Can fun r => anyA tab T md ops K fuel (listed.setIfInBounds i true) ((i, fpOf tab T ops E o) :: seen) r.1 r.2
theorem anyA_seen {K : Env → Hp → Prop} : ∀ (fuel : Nat) (listed : Array Bool) (s s' : List (Nat × Fp)) (E : Env) (H : Hp), (∀ p ∈ s', p ∈ s) → anyA tab T md ops K fuel listed s E H → anyA tab T md ops K fuel listed s' E H
 | 0, _, _, _, _, _, _, h => h
 | fuel + 1, listed, s, s', E, H, hs, h => ⟨h.1, fun i hi o ho => by
  obtain ⟨h1, h2⟩ := h.2 i hi o ho
  refine ⟨fun p hp => h1 p (hs p hp), h2.mono fun r hr => anyA_seen fuel _ _ _ _ _ (fun p hp => ?_) hr⟩
  rcases List.mem_cons.1 hp with rfl | hp
  ·simp
  ·simp [hs p hp]⟩

theorem closed_set {listed : Array Bool} {i : Nat} (hc : Closed md ops listed) (hi : i ∈ Region.ready md ops listed) : Closed md ops (listed.setIfInBounds i true) := by
 intro k o ho hk e he hb
 by_cases hki : i = k
 ·subst hki
  obtain ⟨_, o', ho', hall⟩ := mem_ready.1 hi
  rw [ho] at ho'; cases ho'
  exact getD_set_true (hall e he hb)
 ·rw [getD_set_ne false hki] at hk
  exact getD_set_true (hc k o ho hk e he hb)

theorem anyA_first {K : Env → Hp → Prop} {i : Nat} {oi : Oper} (hi : ops[i]? = some oi) {v : AV} {ups : List (Nat × Cell)} : ∀ (fuel : Nat) (listed : Array Bool) (seen : List (Nat × Fp)) (E : Env) (H : Hp), Closed md ops listed →
 (∀ j oj, ops[j]? = some oj → j ≠ i → listed.getD j true = false → (∀ e ∈ oj.after, Region.binds md e = true → e.on ≠ i) → oi.apart ops oj = true) →
 i ∈ Region.ready md ops listed → StepTo tab T ops E H oi v ups → OkSeen md ops seen i (fpOf tab T ops E oi) →
 anyA tab T md ops K fuel (listed.setIfInBounds i true) ((i, fpOf tab T ops E oi) :: seen) (putE E oi.dst v) (putH H ups) → anyA tab T md ops K (fuel + 1) listed seen E H := by
 intro fuel
 induction fuel with
 | zero =>
  intro listed seen E H _ _ hr hy hok HH
  refine ⟨fun h => (by rw [h] at hr; cases hr), fun j hj oj hoj => ?_⟩
  by_cases hji : j = i
  ·subst hji
   rw [hi] at hoj; cases hoj
   exact ⟨hok, hy.to HH⟩
  ·have := ready_mono hj hji
   rw [HH.1] at this
   cases this
 | succ fuel ih =>
  intro listed seen E H hcl hfree hr hy hok HH
  refine ⟨fun h => (by rw [h] at hr; cases hr), fun j hj oj hoj => ?_⟩
  by_cases hji : j = i
  ·subst hji
   rw [hi] at hoj; cases hoj
   exact ⟨hok, hy.to HH⟩
  ·obtain ⟨g1, g2⟩ := HH.2 j (ready_mono hj hji) oj hoj
   obtain ⟨hjun, oj', hoj', hall⟩ := mem_ready.1 hj
   rw [hoj] at hoj'; cases hoj'
   have hun_i : listed.getD i false = false := by
    have h0 := (mem_ready.1 hr).1
    rcases Nat.lt_or_ge i listed.size with h' | h'
    ·simp [h'] at h0 ⊢; exact h0
    ·simp [Array.getElem?_eq_none h']
   have hnot : ∀ e ∈ oj.after, Region.binds md e = true → e.on ≠ i := fun e he hb heq => by
    have h1 := hall e he hb
    rw [heq, hun_i] at h1
    cases h1
   have hap := hfree j oj hoj hji hjun hnot
   obtain ⟨a1, a2, a3⟩ := Oper.apart_spec hap
   have hfpj : fpOf tab T ops (putE E oi.dst v) oj = fpOf tab T ops E oj := by unfold fpOf; rw [way_put a1]
   rw [hfpj] at g1 g2
   have hfp : apartFp (fpOf tab T ops E oi) (fpOf tab T ops E oj) = true := by
    rcases g1 (i, fpOf tab T ops E oi) (by simp) with hg | hg
    ·have := hg listed hcl fun o' ho' => by rw [hoj] at ho'; cases ho'; exact hall
     rw [hun_i] at this; cases this
    ·exact hg
   obtain ⟨vj, uj, hyj, hKj⟩ := StepTo.of g2
   obtain ⟨s1, s2⟩ := hy.swap hap hfp hyj
   have ki := hy.keys
   have kj := s1.keys
   have fpi : fpOf tab T ops (putE E oj.dst vj) oi = fpOf tab T ops E oi := by unfold fpOf; rw [way_put a3]
   refine ⟨fun p hp => g1 p (by simp [hp]), s1.to ?_⟩
   refine ih (listed.setIfInBounds j true) ((j, fpOf tab T ops E oj) :: seen) _ _ (closed_set hcl hj) (fun k ok hk hki hun hno => ?_) (ready_mono hr (Ne.symm hji)) s2 ?_ ?_
   ·refine hfree k ok hk hki ?_ hno
    by_cases hjk : j = k
    ·subst hjk; exact hjun
    ·rw [getD_set_ne true hjk] at hun; exact hun
   ·rw [fpi]
    intro p hp
    rcases List.mem_cons.1 hp with rfl | hp
    ·exact .inr (apartFp_comm hfp)
    ·exact hok p hp
   ·rw [fpi, Array.setIfInBounds_comm _ _ hji, putE_comm (fun d hd hd' => a2 d hd' hd), putH_swap fun k hk hk' => ?_]
    ·exact anyA_seen _ _ _ _ _ _ (fun p hp => by simp at hp ⊢; rcases hp with hp | hp | hp <;> simp [hp]) hKj
    ·exact (apartFp_iff.1 hfp).1 k (ki k hk') (by simp [kj k hk])
end
end Go.Proofs.Ytadhpgecilhgnaa.A

-- YtadhpgecilhgnaaCtl3
set_option linter.unusedVariables false
set_option linter.unusedSimpArgs false
namespace Go.Proofs.Ytadhpgecilhgnaa.A
open Go
section
variable {P : Program} {B : Base} {m m' : Md} {H H' : Hp} {w w' : World} {o : Oper} {a : Act} {E : Env} {tab : Nat → Option TI} {T : Nat → Option FunE} {N : Nat} {ops : Array Oper} {md : Region.Mode}

theorem HOk.world (h : HOk B m H w) (e : w'.heap = w.heap) (e1 : w'.os = w.os) (e2 : w'.tape = w.tape) (e3 : w'.output = w.output) : HOk B m H w' :=
 h.change0 (ch := []) ⟨e1, e2, e3, by rw [e]; exact Nat.le_refl _, fun _ _ => ⟨rfl, rfl, rfl⟩, fun _ _ _ => by rw [e], fun _ h => h, fun _ h => .inl h, by simp, by simp, by simp, by simp⟩
theorem SE.drawn (s : SE B N E H a w) : SE B N E H a { w with drawn := w.drawn + 1 } := by
 obtain ⟨m, s, hN, hf⟩ := s
 exact ⟨m, ⟨s.h.world rfl rfl rfl rfl, fun t => (s.t t).evo (Evo.world (w := w) (w' := { w with drawn := w.drawn + 1 }) rfl), s.d⟩, hN, hf⟩

theorem any_ok (hW : WaysOk P tab T) (hops : ∀ (i : Nat) (o : Oper), ops[i]? = some o → operOkB N B.fx o = true) {K : Env → Hp → Prop} {Q : Exit → Act → World → Prop} (hQ : ∀ E H a w, SE B N E H a w → K E H → Q .normal a w) : ∀ (fuel : Nat) (listed : Array Bool) (seen : List (Nat × Fp)) (E : Env) (H : Hp) (a : Act) (w : World),
 SE B N E H a w → anyA tab T md ops K fuel listed seen E H → wpAny P md ops Q fuel listed a w
 | 0, _, _, _, _, _, _, s, h => ⟨h.1, hQ _ _ _ _ s h.2⟩
 | fuel + 1, listed, seen, E, H, a, w, s, h => ⟨fun h0 => hQ _ _ _ _ s (h.1 h0), fun i hi => by
  obtain ⟨_, o, ho, _⟩ := mem_ready.1 hi
  obtain ⟨_, h2⟩ := h.2 i hi o ho
  obtain ⟨E', H', k1, k2⟩ := stepG_ok hW s (hops i o ho) h2 Q
  unfold wpOp
  simp only [ho]
  exact k2 _ fun a' w' s' => any_ok hW hops hQ fuel _ _ _ _ _ _ s' k1⟩

theorem after_bits (acc : Array Nat) : ∀ (l : List Edge) (s i : Nat), (l.foldl (fun s e => if Region.binds .any e then s ||| 2 ^ e.on ||| acc.getD e.on 0 else s) s).testBit i = true →
 s.testBit i = true ∨ ∃ e ∈ l, Region.binds .any e = true ∧ (e.on = i ∨ (acc.getD e.on 0).testBit i = true)
 | [], s, i, h => .inl h
 | e :: l, s, i, h => by
  rw [List.foldl_cons] at h
  rcases after_bits acc l _ i h with h | ⟨e', h1, h2, h3⟩
  ·split at h
   ·rename_i hb
    rw [Nat.testBit_or, Nat.testBit_or, Nat.testBit_two_pow] at h
    simp only [Bool.or_eq_true, decide_eq_true_eq] at h
    rcases h with (h | h) | h
    ·exact .inl h
    ·exact .inr ⟨e, by simp, hb, .inl h⟩
    ·exact .inr ⟨e, by simp, hb, .inr h⟩
   ·exact .inl h
  ·exact .inr ⟨e', by simp [h1], h2, h3⟩
theorem before_fold : ∀ (l : List Oper) (acc : Array Nat), (∀ j, j < l.length → l[j]? = ops[acc.size + j]?) → (∀ j i, (acc.getD j 0).testBit i = true → Good .any ops j i) →
 ∀ j i, ((l.foldl (fun acc o => acc.push (o.after.foldl (fun s e => if Region.binds .any e then s ||| 2 ^ e.on ||| acc.getD e.on 0 else s) 0)) acc).getD j 0).testBit i = true → Good .any ops j i
 | [], acc, _, hg, j, i, h => hg j i h
 | o :: l, acc, hl, hg, j, i, h => by
  rw [List.foldl_cons] at h
  have h0 : ops[acc.size]? = some o := by simpa using (hl 0 (by simp)).symm
  refine before_fold l _ (fun j hj => ?_) (fun j i hb => ?_) j i h
  ·have := hl (j + 1) (by simp; omega)
   rw [List.getElem?_cons_succ] at this
   rw [this, Array.size_push]; congr 1; omega
  ·rw [Array.getD_eq_getD_getElem?, Array.getElem?_push] at hb
   split at hb
   ·rename_i hj
    subst hj
    simp only [Option.getD_some] at hb
    rw [← Array.foldl_toList] at hb
    rcases after_bits acc _ 0 i hb with hb | ⟨e, h1, h2, h3⟩
    ·simp at hb
    ·intro listed hc hd
     have he := hd o h0 e (by simpa using h1) h2
     rcases h3 with h3 | h3
     ·rw [← h3]; exact he
     ·exact hg e.on i h3 listed hc fun oj hoj e' he' hb' => hc e.on oj hoj he e' he' hb'
   ·exact hg j i (by rw [Array.getD_eq_getD_getElem?]; exact hb)
theorem before_good {j i : Nat} (h : ((Region.before ops).getD j 0).testBit i = true) : Good .any ops j i := by
 unfold Region.before at h
 rw [← Array.foldl_toList] at h
 refine before_fold ops.toList #[] (fun j _ => by simp) (fun j i h => by simp at h) j i h

theorem fps_zip {fps : List Fp} (h : fpsOk ops fps = true) {j i : Nat} {fj fi : Fp} (hj : fps[j]? = some fj) (hi : fps[i]? = some fi) (hlt : i < j) : Good .any ops j i ∨ apartFp fi fj = true := by
 unfold fpsOk at h
 simp only [List.all_eq_true] at h
 have h1 := h (fj, j) (by rw [List.mem_zipIdx_iff_getElem?]; exact hj) (fi, i) (by rw [List.mem_zipIdx_iff_getElem?]; simp only [List.getElem?_take]; rw [if_pos hlt]; exact hi)
 rw [Bool.or_eq_true] at h1
 rcases h1 with h1 | h1
 ·exact .inl (before_good h1)
 ·exact .inr (apartFp_comm h1)

variable {R : Type} {r : R}
theorem runOpsD_end {K : Env → Hp → Option R} : ∀ (l : List Oper) (E : Env) (H : Hp) (fps : List Fp), runOpsD tab T ops l E H fps K = some r → ∃ more, fpsOk ops (fps ++ more) = true
 | [], _, _, fps, h => by
  unfold runOpsD at h
  split at h
  ·rename_i hf; exact ⟨[], by simpa using hf⟩
  ·cases h
 | o :: l, E, H, fps, h => by
  unfold runOpsD at h
  obtain ⟨x, _, h2⟩ := Tst.can_out (Tst.can_of_to h)
  obtain ⟨more, hm⟩ := runOpsD_end l _ _ _ h2
  exact ⟨_ :: more, by simpa using hm⟩
theorem anyA_lex {K : Env → Hp → Option R} : ∀ (l : List Oper) (k : Nat) (listed : Array Bool) (fps : List Fp) (seen : List (Nat × Fp)) (E : Env) (H : Hp), (∀ j, l[j]? = ops[k + j]?) → Region.lexFrom .any ops l.length k listed = true → fps.length = k →
 (∀ p ∈ seen, fps[p.1]? = some p.2) → Closed .any ops listed → runOpsD tab T ops l E H fps K = some r → anyA tab T .any ops (fun E H => K E H = some r) l.length listed seen E H
 | [], k, listed, fps, seen, E, H, hl, hB, _, _, _, h => by
  unfold runOpsD at h
  split at h
  ·exact ⟨by simpa [Region.lexFrom] using hB, h⟩
  ·cases h
 | o :: l, k, listed, fps, seen, E, H, hl, hB, hk, hs, hc, h => by
  have h0 : ops[k]? = some o := by simpa using (hl 0).symm
  simp only [List.length_cons, Region.lexFrom, Bool.and_eq_true] at hB
  obtain ⟨⟨hr, hf⟩, hB'⟩ := hB
  unfold runOpsD at h
  obtain ⟨v, ups, hst, h2⟩ := StepTo.of (Tst.can_of_to h)
  obtain ⟨more, hm⟩ := runOpsD_end l _ _ _ h2
  have hri : k ∈ Region.ready .any ops listed := by simpa using hr
  refine anyA_first h0 l.length listed seen E H hc (Region.free_spec h0 hf) hri hst (fun p hp => ?_) ?_
  ·have hp1 := hs p hp
   have hlt : p.1 < fps.length := (List.getElem?_eq_some_iff.1 hp1).1
   refine fps_zip hm ?_ ?_ (by omega)
   ·rw [List.append_assoc, List.getElem?_append_right (by omega), hk]; simp
   ·rw [List.append_assoc, List.getElem?_append_left hlt]; exact hp1
  ·refine anyA_lex l (k + 1) _ _ _ _ _ (fun j => by have := hl (j + 1); simpa [Nat.add_assoc, Nat.add_comm 1 j] using this) hB' (by simp [hk]) (fun p hp => ?_) (closed_set hc hri) h2
   rcases List.mem_cons.1 hp with rfl | hp
   ·rw [List.getElem?_append_right (by simp [hk])]; simp [hk]
   ·have hp1 := hs p hp
    have hlt : p.1 < fps.length := (List.getElem?_eq_some_iff.1 hp1).1
    rw [List.getElem?_append_left hlt]; exact hp1

theorem region_ok (hW : WaysOk P tab T) (hops : ∀ o ∈ ops.toList, operOkB N B.fx o = true) {id : Nat} {K : Env → Hp → Option R} {Q : Exit → Act → World → Prop} (hQ : ∀ E H a w, SE B N E H a w → K E H = some r → Q .normal a w) (s : SE B N E H a w)
 (h : runOps tab T ops ops.toList E H K = some r) : (Code.region id ops false).wp P Q a w := by
 refine wp_region ?_
 have := runOps_ok hW (N := N) (B := B) hQ ops.toList 0 E H a w (fun j _ => by simp) hops s h
 rwa [Array.length_toList, ← List.range_eq_range'] at this
theorem region_draw_ok (hm : P.follows .mixedOrders = true) (hW : WaysOk P tab T) (hops : ∀ o ∈ ops.toList, operOkB N B.fx o = true) {id : Nat} {K : Env → Hp → Option R} {Q : Exit → Act → World → Prop} (hQ : ∀ E H a w, SE B N E H a w → K E H = some r → Q .normal a w) (s : SE B N E H a w)
 (hB : Region.lexB .any ops = true) (h : runOpsD tab T ops ops.toList E H [] K = some r) : (Code.region id ops true).wp P Q a w := by
 simp only [Region.lexB, Bool.and_eq_true] at hB
 refine wp_region_any hm ?_
 have := anyA_lex ops.toList 0 (Array.replicate ops.size false) [] [] E H (fun j => by simp) (by simpa using hB.2) rfl (by simp) (fun k o _ hk => by simp [Array.getElem?_replicate] at hk; split at hk <;> cases hk) h
 rw [Array.length_toList] at this
 exact any_ok hW (fun i o hi => hops o (by simpa using Array.mem_of_getElem? hi)) hQ _ _ _ _ _ _ _ s.drawn this
end
end Go.Proofs.Ytadhpgecilhgnaa.A

-- YtadhpgecilhgnaaCtl4
set_option linter.unusedVariables false
set_option linter.unusedSimpArgs false
namespace Go.Proofs.Ytadhpgecilhgnaa.A
open Go
section
variable {P : Program} {B : Base} {m m' m0 : Md} {H H' : Hp} {w w' : World} {o : Oper} {a : Act} {E : Env} {N : Nat}

theorem HOk.add (h : HOk B m H w) {k : Nat} (hk : H k = .absent) {ob : Obj} {hdr : Value} {F : List Nat} (hr : ORep m.Z w ob hdr F) (hn : F.Nodup) (hF : ∀ b ∈ F, ¬ m.Z b ∧ b < w.heap.size ∧ (b < B.w.heap.size → b ∈ B.F))
 (hs : ∀ j, (H j).Live → ∀ b ∈ m.ft j, b ∉ F) : HOk B (m.set k hdr F) (upd H k (.live ob)) w ∧ Evo m H w (m.set k hdr F) (upd H k (.live ob)) w := by
 have hother : ∀ j, j ≠ k → upd H k (.live ob) j = H j ∧ (m.set k hdr F).hd j = m.hd j ∧ (m.set k hdr F).ft j = m.ft j := fun j hj => ⟨upd_other _ _ hj, upd_other _ _ hj, upd_other _ _ hj⟩
 have hft : (m.set k hdr F).ft k = F := upd_same _ _ _
 refine ⟨⟨h.zl, h.zs, h.zi, fun j => ?_, fun j hl => ?_, fun i j hij hli hlj b hb => ?_, fun j hl b hb => ?_, h.kp⟩, Evo.of_at (fun b hb => ⟨hb, rfl⟩) fun j hab => ?_⟩
 ·by_cases hj : j = k
  ·subst hj
   rw [upd_same]
   simp only [CRep, Md.set]
   rw [upd_same, upd_same]
   exact hr
  ·obtain ⟨e1, e2, e3⟩ := hother j hj
   rw [e1]
   exact CRep.frame (m := m) (m' := m.set k hdr F) (fun _ _ => rfl) (fun _ h => h) e2 e3 (fun _ _ _ => rfl) (h.cr j)
 ·by_cases hj : j = k
  ·subst hj; rw [hft]; exact hn
  ·obtain ⟨e1, e2, e3⟩ := hother j hj
   rw [e1] at hl; rw [e3]; exact h.nd j hl
 ·by_cases hi : i = k <;> by_cases hj : j = k
  ·exact absurd (hi.trans hj.symm) hij
  ·subst hi
   obtain ⟨e1, e2, e3⟩ := hother j hj
   rw [hft] at hb; rw [e1] at hlj; rw [e3]
   exact fun hb' => hs j hlj b hb' hb
  ·subst hj
   obtain ⟨e1, e2, e3⟩ := hother i hi
   rw [e1] at hli; rw [e3] at hb; rw [hft]
   exact hs i hli b hb
  ·obtain ⟨e1, e2, e3⟩ := hother i hi
   obtain ⟨e4, e5, e6⟩ := hother j hj
   rw [e1] at hli; rw [e4] at hlj; rw [e3] at hb; rw [e6]
   exact h.sp i j hij hli hlj b hb
 ·by_cases hj : j = k
  ·subst hj; rw [hft] at hb; exact hF b hb
  ·obtain ⟨e1, e2, e3⟩ := hother j hj
   rw [e1] at hl; rw [e3] at hb; exact h.nz j hl b hb
 ·have hj : j ≠ k := fun e => hab (e ▸ hk)
  obtain ⟨e1, e2, e3⟩ := hother j hj
  refine ⟨by rw [e1]; exact hab, fun g ls hh => ⟨e2, g, ls, by rw [← e1]; exact hh, Nat.le_refl _, fun _ off e xs hx => ⟨xs, hx, rfl, fun _ _ => rfl⟩⟩, fun e xs hh => ⟨e2, xs, by rw [← e1]; exact hh, rfl⟩, fun e xs hh => ⟨e2, .inl (by rw [← e1]; exact hh)⟩, fun k e mm hh => ⟨e2, mm, by rw [← e1]; exact hh⟩, fun k e mm hh => ⟨e2, .inl (by rw [← e1]; exact hh)⟩, fun k e c r hh => ⟨e2, c, r, by rw [← e1]; exact hh⟩, fun g k e mm ho hh => ⟨e2, g, mm, ho, by rw [← e1]; exact hh, Nat.le_refl _, fun _ _ _ => rfl⟩⟩
theorem HOk.freeze (h : HOk B m H w) {F : List Nat} (hF : ∀ b ∈ F, b < w.heap.size ∧ (b < B.w.heap.size → b ∈ B.F)) (hs : ∀ j, (H j).Live → ∀ b ∈ m.ft j, b ∉ F) :
 HOk B { m with Z := fun b => m.Z b ∨ b ∈ F } H w ∧ Evo m H w { m with Z := fun b => m.Z b ∨ b ∈ F } H w := by
 refine ⟨⟨fun b hb => hb.elim (h.zl b) fun hb => (hF b hb).1, fun b hb => .inl (h.zs b hb), fun b hb hlt => hb.elim (fun hb => h.zi b hb hlt) fun hb => .inr ((hF b hb).2 hlt), fun j => ?_, h.nd, h.sp, fun j hl b hb => ?_, h.kp⟩, Evo.of_at (fun b hb => ⟨.inl hb, rfl⟩) fun j hab => ?_⟩
 ·exact CRep.frame (m := m) (m' := { m with Z := fun b => m.Z b ∨ b ∈ F }) (fun _ _ => rfl) (fun _ h => Or.inl h) rfl rfl (fun _ _ _ => rfl) (h.cr j)
 ·obtain ⟨h1, h2⟩ := h.nz j hl b hb
  exact ⟨fun hz => hz.elim h1 (hs j hl b hb), h2⟩
 ·exact ⟨hab, fun g ls hh => ⟨rfl, g, ls, hh, Nat.le_refl _, fun _ off e xs hx => ⟨xs, hx, rfl, fun _ _ => rfl⟩⟩, fun e xs hh => ⟨rfl, xs, hh, rfl⟩, fun e xs hh => ⟨rfl, .inl hh⟩, fun k e mm hh => ⟨rfl, mm, hh⟩, fun k e mm hh => ⟨rfl, .inl hh⟩, fun k e c r hh => ⟨rfl, c, r, hh⟩, fun g k e mm ho hh => ⟨rfl, g, mm, ho, hh, Nat.le_refl _, fun _ _ _ => rfl⟩⟩

theorem ofL_cons {α : Type} (d : α) (k : Nat) (x : α) (l : List (Nat × α)) : ofL d ((k, x) :: l) = upd (ofL d l) k x := rfl
theorem ofL_absent {α : Type} (d : α) : ∀ {l : List (Nat × α)} {k : Nat}, k ∉ l.map (·.1) → ofL d l k = d
 | [], _, _ => rfl
 | (n, x) :: l, k, h => by
  simp only [List.map_cons, List.mem_cons, not_or] at h
  rw [ofL_cons, upd_other _ _ h.1, ofL_absent d h.2]
theorem bare_ok (hz : ∀ b, m.Z b → m'.Z b) {l : LV} {c : Value} (h : LRep m w H l c) : LRep m' w H' (bare l) c := by
 have fr : ∀ {τ : Ty} {x : τ.den} {cs : List Value}, Rep m.Z w τ x cs [] → Rep m'.Z w τ x cs [] := fun h => h.frame (fun _ _ => rfl) hz (by simp)
 cases l with
 | v τ x => exact fr h
 | vw e xs => exact fr h
 | nils => exact h
 | nilm => exact h
 | nilp => exact h
 | pel τ x off =>
  obtain ⟨b, o, cs, h1, h2, h3, h4⟩ := h
  exact ⟨b, o, cs, h1, hz b h2, fr h3, h4⟩
 | _ => trivial

structure KInv (B : Base) (m : Md) (H : Hp) (w : World) (a : Act) (m' : Md) (es : List (Nat × AV)) (hs : List (Nat × Cell)) (ids : List Nat) : Prop where
 h : HOk B m' (ofL .absent hs) w
 t : ∀ t, AVRep m' w (ofL .absent hs) (ofL .junk es t) (a.tmps.getD t undef)
 z : ∀ b, m.Z b → m'.Z b
 zi : ∀ b, m'.Z b → m.Z b ∨ ∃ id ∈ ids, (H id).Live ∧ b ∈ m.ft id
 own : ∀ k, (ofL .absent hs k).Live → ∀ b ∈ m'.ft k, ∃ id ∈ ids, (H id).Live ∧ b ∈ m.ft id
 ks : ∀ k ∈ hs.map (·.1), ∃ t ∈ es.map (·.1), k = headId t
section
variable {es : List (Nat × AV)} {hs : List (Nat × Cell)} {ids : List Nat}
theorem ofL_putT {m : Md} {H : Hp} (h : ∀ t, AVRep m w H (ofL .junk es t) (a.tmps.getD t undef)) {t0 : Nat} {v : AV} (hv : AVRep m w H v (a.tmps.getD t0 undef)) (t : Nat) : AVRep m w H (ofL .junk ((t0, v) :: es) t) (a.tmps.getD t undef) := by
 rw [ofL_cons]
 by_cases ht : t = t0
 ·subst ht; rw [upd_same]; exact hv
 ·rw [upd_other _ _ ht]; exact h t
theorem KInv.plain (K : KInv B m H w a m0 es hs ids) {t0 : Nat} {v : AV} (hv : AVRep m0 w (ofL .absent hs) v (a.tmps.getD t0 undef)) : KInv B m H w a m0 ((t0, v) :: es) hs ids :=
 ⟨K.h, ofL_putT K.t hv, K.z, K.zi, K.own, fun k hk => let ⟨t, h1, h2⟩ := K.ks k hk; ⟨t, by simp at h1 ⊢; exact .inr h1, h2⟩⟩
theorem headId_inj {s t : Nat} (h : headId s = headId t) : s = t := by unfold headId at h; omega
theorem KInv.fresh (K : KInv B m H w a m0 es hs ids) {t0 : Nat} (hn : memN t0 (es.map (·.1)) = false) : ofL .absent hs (headId t0) = .absent :=
 ofL_absent _ fun hk => by
  obtain ⟨t, h1, h2⟩ := K.ks _ hk
  rw [headId_inj h2] at hn
  exact memN_false.1 hn h1
theorem KInv.keep (K : KInv B m H w a m0 es hs ids) (hh : HOk B m H w) {t0 : Nat} (hn : memN t0 (es.map (·.1)) = false) {id : Nat} (hid : memN id ids = false) (hl : (H id).Live) {ob : Obj} {hdr : Value} (hr : ORep m.Z w ob hdr (m.ft id)) {v : AV}
 (hv : AVRep (m0.set (headId t0) hdr (m.ft id)) w (upd (ofL .absent hs) (headId t0) (.live ob)) v (a.tmps.getD t0 undef)) : KInv B m H w a (m0.set (headId t0) hdr (m.ft id)) ((t0, v) :: es) ((headId t0, .live ob) :: hs) (id :: ids) := by
 have hidn := memN_false.1 hid
 have hr' : ORep m0.Z w ob hdr (m.ft id) := by
  have := CRep.frame (m := m.set id hdr (m.ft id)) (m' := { m.set id hdr (m.ft id) with Z := m0.Z }) (w := w) (w' := w) (id := id) (c := .live ob) (fun _ _ => rfl) K.z rfl rfl (fun _ _ _ => rfl) (by simp only [CRep, Md.set]; rw [upd_same, upd_same]; exact hr)
  simp only [CRep, Md.set] at this
  rw [upd_same, upd_same] at this
  exact this
 have hA : ∀ b ∈ m.ft id, ¬ m0.Z b ∧ b < w.heap.size ∧ (b < B.w.heap.size → b ∈ B.F) := fun b hb => ⟨fun hz => by
  rcases K.zi b hz with hz | ⟨i, i1, i2, i3⟩
  ·exact (hh.nz id hl b hb).1 hz
  ·exact hh.sp i id (fun e => hidn (e ▸ i1)) i2 hl b i3 hb, (hh.nz id hl b hb).2⟩
 have hB : ∀ j, (ofL .absent hs j).Live → ∀ b ∈ m0.ft j, b ∉ m.ft id := fun j hj b hb hb' => by
  obtain ⟨i, i1, i2, i3⟩ := K.own j hj b hb
  exact hh.sp i id (fun e => hidn (e ▸ i1)) i2 hl b i3 hb'
 obtain ⟨h1, h2⟩ := K.h.add (K.fresh hn) hr' (hh.nd id hl) hA hB
 ·refine ⟨h1, ofL_putT (fun t => (K.t t).evo h2) hv, K.z, fun b hb => (K.zi b hb).imp_right fun ⟨i, i1, i2⟩ => ⟨i, by simp [i1], i2⟩, fun k hk b hb => ?_, fun k hk => ?_⟩
  ·by_cases hk0 : k = headId t0
   ·subst hk0
    simp only [Md.set] at hb
    rw [upd_same] at hb
    exact ⟨id, by simp, hl, hb⟩
   ·rw [ofL_cons, upd_other _ _ hk0] at hk
    simp only [Md.set] at hb
    rw [upd_other _ _ hk0] at hb
    obtain ⟨i, i1, i2⟩ := K.own k hk b hb
    exact ⟨i, by simp [i1], i2⟩
  ·simp only [List.map_cons, List.mem_cons] at hk
   rcases hk with rfl | hk
   ·exact ⟨t0, by simp, rfl⟩
   ·obtain ⟨t, i1, i2⟩ := K.ks k hk
    exact ⟨t, by simp at i1 ⊢; exact .inr i1, i2⟩

theorem one_val {l : LV} {u : Value} (h : LRep m w H l u) : AVRep m w H (.val false [l]) u := ⟨[u], rfl, h, trivial⟩
theorem rows_frozen {Z Z' : Nat → Prop} {k e : Ty} (hp : e.pure = true) (hz : ∀ b, Z b → Z' b) : ∀ {mm : List (k.den × List e.den)} {es : List MapEntry} {F : List Nat}, (∀ b ∈ F, Z' b) → RepMF (TV Z w k (.vec e)) (KV Z w k) mm es F →
 RepM (fun x c F => Rep Z' w k x c F) (fun (x : (Ty.sl e).den) c F => Rep Z' w (.sl e) x c F) (!k.one) (!(Ty.sl e).one) mm es
 | [], _, _, _, h => h.1
 | p :: mm, _, _, hF, ⟨en, es', F1, F2, h1, h2, ⟨kc, h3, h4⟩, ⟨vc, h5, h6⟩, h7⟩ => by
  have h5 : [en.val] = vc := h5
  subst h5
  exact ⟨en, es', h1, ⟨kc, h3, h4.frame (fun _ _ => rfl) hz (by simp)⟩, ⟨[en.val], rfl, Rep.vec_sl hp h6 hz fun b hb => hF b (by rw [h2]; simp [hb])⟩, rows_frozen hp hz (fun b hb => hF b (by rw [h2]; simp [hb])) h7⟩
theorem keep1_ok (s : St B m E H a w) (hz : ∀ b, m.Z b → m0.Z b) {k : Keep} {v : AV} {c : Option Cell} {i : Option Nat} (h : keep1 E H k = some (v, c, i)) :
 (i = none ∧ c = none ∧ ∀ H', AVRep m0 w H' v (a.tmps.getD k.tmp undef)) ∨
 (∃ e, i = none ∧ c = some (.live (.row e [])) ∧ v = .val false [.row (headId k.tmp)] ∧ a.tmps.getD k.tmp undef = .slice none 0 0) ∨
 (∃ id ob hdr, i = some id ∧ c = some (.live ob) ∧ (H id).Live ∧ ORep m.Z w ob hdr (m.ft id) ∧ ∀ (m1 : Md) (H1 : Hp), m1.hd (headId k.tmp) = hdr → H1 (headId k.tmp) = .live ob → AVRep m1 w H1 v (a.tmps.getD k.tmp undef)) ∨
 (∃ id, i = some id ∧ c = none ∧ (H id).Live ∧ ∀ (m1 : Md) (H1 : Hp), (∀ b, m.Z b → m1.Z b) → (∀ b ∈ m.ft id, m1.Z b) → AVRep m1 w H1 v (a.tmps.getD k.tmp undef)) := by
 have fr : ∀ {τ : Ty} {x : τ.den} {cs : List Value}, Rep m.Z w τ x cs [] → Rep m0.Z w τ x cs [] := fun h => h.frame (fun _ _ => rfl) hz (by simp)
 have ht := s.t k.tmp
 have hrow : ∀ {id : Nat} {e : Ty} {xs : List e.den}, E k.tmp = .val false [.row id] → H id = .live (.row e xs) → a.tmps.getD k.tmp undef = m.hd id ∧ ORep m.Z w (.row e xs) (m.hd id) (m.ft id) := fun {id e xs} he hx => by
  rw [he] at ht
  have hc := s.h.cr id
  rw [hx] at hc
  exact ⟨ht.one.2.1 _ _ hx, hc⟩
 cases k with
 | slot t =>
  simp only [keep1, Keep.tmp] at h ht ⊢
  split at h
  ·rename_i id he
   split at h
   ·rename_i k' e' mm hx
    cases h
    rw [he] at ht
    have hc := s.h.cr id
    rw [hx] at hc
    have hv := ht.one.2.1 _ _ _ hx
    refine .inr (.inr (.inl ⟨id, _, m.hd id, rfl, rfl, by rw [hx]; trivial, hc, fun m1 H1 h1 h2 => one_val ⟨by rw [h2]; simp, fun k2 e2 mm2 h3 => by rw [h1]; exact hv, fun k2 e2 mm2 h3 => by rw [h1]; exact hv⟩⟩))
   ·rename_i k' e' mm hx
    cases h
    rw [he] at ht
    have hc := s.h.cr id
    rw [hx] at hc
    have hv := ht.one.2.2 _ _ _ hx
    exact .inl ⟨rfl, rfl, fun H' => one_val (by rw [hv]; exact fr hc)⟩
   ·cases h
  ·rename_i id he
   split at h
   ·rename_i k' e' c r hx
    cases h
    rw [he] at ht
    have hc := s.h.cr id
    rw [hx] at hc
    have hv := ht.one.2 _ _ _ _ hx
    refine .inr (.inr (.inl ⟨id, _, m.hd id, rfl, rfl, by rw [hx]; trivial, hc, fun m1 H1 h1 h2 => one_val ⟨by rw [h2]; simp, fun _ _ _ _ _ => by rw [h1]; exact hv⟩⟩))
   ·cases h
  ·rename_i id he
   split at h
   ·rename_i g k' e' mm hx
    cases h
    rw [he] at ht
    have hc := s.h.cr id
    rw [hx] at hc
    have hv := ht.one.2 _ _ _ _ _ hx
    refine .inr (.inr (.inl ⟨id, _, m.hd id, rfl, rfl, by rw [hx]; trivial, hc, fun m1 H1 h1 h2 => one_val ⟨by rw [h2]; simp, fun _ _ _ _ _ _ => by rw [h1]; exact hv⟩⟩))
   ·cases h
  ·rename_i g ls hne2 hne1 hne he
   cases h
   rw [he] at ht
   obtain ⟨cs, h1, h2⟩ := ht
   refine .inl ⟨rfl, rfl, fun H' => ⟨cs, h1, ?_⟩⟩
   clear h1 he hne hne1 hne2
   induction ls generalizing cs with
   | nil => cases cs with | nil => trivial | cons _ _ => exact h2.elim
   | cons l ls ih =>
    cases cs with
    | nil => exact h2.elim
    | cons c cs => exact ⟨bare_ok hz h2.1, ih cs h2.2⟩
  ·cases h
 | vec t e =>
  simp only [keep1, Keep.tmp] at h ht hrow ⊢
  split at h
  ·rename_i id he
   split at h
   ·rename_i e' xs hx
    cases h
    obtain ⟨h1, h2⟩ := hrow he hx
    refine .inr (.inr (.inl ⟨id, _, m.hd id, rfl, rfl, by rw [hx]; trivial, h2, fun m1 H1 h3 h4 => one_val ⟨by rw [h4]; simp, fun _ _ _ => by rw [h3]; exact h1, fun _ _ _ => by rw [h3]; exact h1⟩⟩))
   ·cases h
  ·rename_i he
   cases h
   rw [he] at ht
   exact .inr (.inl ⟨e, rfl, rfl, rfl, ht.one⟩)
  ·cases h
 | lit t e =>
  simp only [keep1, Keep.tmp] at h ht hrow ⊢
  split at h
  ·rename_i he
   cases h
   rw [he] at ht
   refine .inl ⟨rfl, rfl, fun H' => one_val ?_⟩
   have := ht.one
   exact ⟨rfl, by simp, none, 0, by rw [show a.tmps.getD t undef = .slice none 0 0 from this]; rfl, by simp, .inl rfl⟩
  ·rename_i e' xs he
   cases h
   rw [he] at ht
   exact .inl ⟨rfl, rfl, fun H' => one_val (fr ht.one)⟩
  ·rename_i e' xs he
   cases h
   rw [he] at ht
   exact .inl ⟨rfl, rfl, fun H' => one_val (fr (τ := .sl e') ht.one)⟩
  ·rename_i id he
   split at h
   ·rename_i e' xs hx
    split at h
    ·rename_i hp
     cases h
     obtain ⟨h1, h2⟩ := hrow he hx
     exact .inr (.inr (.inr ⟨id, rfl, rfl, by rw [hx]; trivial, fun m1 H1 z1 z2 => one_val (by rw [h1]; exact Rep.vec_sl (Z := m.Z) hp h2 z1 z2)⟩))
    ·cases h
   ·rename_i e' xs hx
    cases h
    rw [he] at ht
    have hc := s.h.cr id
    rw [hx] at hc
    have h1 := ht.one.2.2 _ _ hx
    exact .inl ⟨rfl, rfl, fun H' => one_val (fr (τ := .sl e') (by rw [h1]; exact hc))⟩
   ·cases h
  ·cases h
 | obj t τ =>
  simp only [keep1, Keep.tmp] at h ht ⊢
  split at h
  ·rename_i id off he
   split at h
   ·rename_i g ls hx
    split at h
    ·rename_i x hasm
     cases h
     rw [he] at ht
     have hc := s.h.cr id
     rw [hx] at hc
     obtain ⟨b, el, cs, F', k1, k2, k3, k4⟩ := hc
     obtain ⟨b', e1, e2⟩ := ht.one.2 _ _ hx
     rw [k1] at e1; cases e1
     refine .inr (.inr (.inl ⟨id, _, m.hd id, rfl, rfl, by rw [hx]; trivial, ⟨b, el, cs, F', k1, k2, k3, flat_ok (asmAllO hasm k4)⟩, fun m1 H1 h3 h4 => one_val ⟨by rw [h4]; simp, fun _ _ _ => ⟨b, by rw [h3]; exact k1, e2⟩⟩⟩))
    ·cases h
   ·cases h
  ·cases h
 | same t u => cases h
 | view t u => cases h
 | rows t =>
  simp only [keep1, Keep.tmp] at h ht ⊢
  split at h
  ·rename_i id he
   split at h
   ·rename_i g k' e' mm hx
    split at h
    ·rename_i hp
     cases h
     rw [he] at ht
     have hc := s.h.cr id
     rw [hx] at hc
     obtain ⟨b, ents, clock, F', k1, k2, k3, k4, k5⟩ := hc
     have hv := ht.one.2 _ _ _ _ _ hx
     refine .inr (.inr (.inr ⟨id, rfl, rfl, by rw [hx]; trivial, fun m1 H1 z1 z2 => one_val ?_⟩))
     refine ⟨rfl, b, ents, clock, by rw [hv, k1], z2 b (by rw [k2]; simp), k3, k4, ?_⟩
     exact rows_frozen hp z1 (fun z hz => z2 z (by rw [k2]; simp [hz])) k5
    ·cases h
   ·cases h
  ·rename_i g ls hne he
   cases h
   rw [he] at ht
   obtain ⟨cs, h1, h2⟩ := ht
   refine .inl ⟨rfl, rfl, fun H' => ⟨cs, h1, ?_⟩⟩
   clear h1 he hne
   induction ls generalizing cs with
   | nil => cases cs with | nil => trivial | cons _ _ => exact h2.elim
   | cons l ls ih =>
    cases cs with
    | nil => exact h2.elim
    | cons c cs => exact ⟨bare_ok hz h2.1, ih cs h2.2⟩
  ·cases h
 | nlit t e =>
  simp only [keep1, Keep.tmp] at h ht ⊢
  split at h
  ·rename_i he
   cases h
   rw [he] at ht
   refine .inl ⟨rfl, rfl, fun H' => one_val ?_⟩
   have := ht.one
   exact ⟨fun _ => by rw [show a.tmps.getD t undef = .slice none 0 0 from this], rfl, by simp, none, 0, by rw [show a.tmps.getD t undef = .slice none 0 0 from this]; rfl, by simp, .inl rfl⟩
  ·rename_i e' xs he
   cases h
   rw [he] at ht
   exact .inl ⟨rfl, rfl, fun H' => one_val (fr (τ := .nsl e') ht.one)⟩
  ·cases h
theorem sameAV_ok (s : St B m E H a w) {t u : Nat} (h : sameAV H (E t) (E u) = true) : a.tmps.getD t undef = a.tmps.getD u undef := by
 have ht := s.t t
 have hu := s.t u
 unfold sameAV at h
 split at h
 ·rename_i x y e1 e2
  rw [e1] at ht; rw [e2] at hu
  simp only [Bool.and_eq_true] at h
  obtain rfl := Nat.eq_of_beq_eq_true h.1
  have h2 := h.2
  split at h2
  ·rename_i hx; rw [ht.one.2.1 _ _ hx, hu.one.2.1 _ _ hx]
  ·rename_i hx; rw [ht.one.2.2 _ _ hx, hu.one.2.2 _ _ hx]
  ·cases h2
 ·rename_i x y e1 e2
  rw [e1] at ht; rw [e2] at hu
  simp only [Bool.and_eq_true] at h
  obtain rfl := Nat.eq_of_beq_eq_true h.1
  have h2 := h.2
  split at h2
  ·rename_i hx; rw [ht.one.2.1 _ _ _ hx, hu.one.2.1 _ _ _ hx]
  ·rename_i hx; rw [ht.one.2.2 _ _ _ hx, hu.one.2.2 _ _ _ hx]
  ·cases h2
 ·rename_i x o1 y o2 e1 e2
  rw [e1] at ht; rw [e2] at hu
  simp only [Bool.and_eq_true] at h
  obtain rfl := Nat.eq_of_beq_eq_true h.1.1
  obtain rfl := Nat.eq_of_beq_eq_true h.1.2
  have h2 := h.2
  split at h2
  ·rename_i hx
   obtain ⟨b, q1, q2⟩ := ht.one.2 _ _ hx
   obtain ⟨b', q3, q4⟩ := hu.one.2 _ _ hx
   rw [q1] at q3; cases q3
   rw [q2, q4]
  ·cases h2
 ·cases h

theorem viewAV_ok (s : St B m E H a w) (K : KInv B m H w a m0 es hs ids) {t u : Nat} {v : AV} (h : viewAV H (headId u) (E t) (E u) (ofL .junk es u) = some v) : AVRep m0 w (ofL .absent hs) v (a.tmps.getD t undef) := by
 have ht := s.t t
 have hu := s.t u
 have hk := K.t u
 unfold viewAV at h
 split at h
 ·rename_i id g off lo sz id' o' k o e1 e2 e3
  rw [e1] at ht; rw [e2] at hu; rw [e3] at hk
  split at h
  ·rename_i g' ls hx
   split at h
   ·rename_i e xs hb hl
    cases h
    simp only [Bool.and_eq_true] at hb
    obtain ⟨⟨b1, b2⟩, b3⟩ := hb
    obtain rfl := Nat.eq_of_beq_eq_true b1
    obtain rfl := Nat.eq_of_beq_eq_true b2
    obtain rfl := Nat.eq_of_beq_eq_true b3
    obtain ⟨b, ad, cap, q1, q2, q3, q4⟩ := ht.one.2.2 ls e xs hx hl
    obtain ⟨b', q5, q6⟩ := hu.one.2 _ _ hx
    rw [q1] at q5; cases q5
    refine AVRep.mk1 ⟨hk.one.1, fun g0 ls0 _ => Nat.zero_le _, fun ls' e' xs' r1 r2 => ?_⟩
    obtain ⟨b'', r3, r4⟩ := hk.one.2 _ _ r1
    rw [q6] at r4
    simp only [Value.pointer.injEq, Option.some.injEq, Addr.mk.injEq, and_true] at r4
    obtain ⟨rfl, -⟩ := r4
    obtain ⟨b3, u', G, z1, z2, z3, _⟩ := cells_leaf K.h r1 r2
    rw [r3] at z1; cases z1
    rw [q2] at z2; cases z2
    obtain ⟨s1, ad', cap', s2, s3, s4⟩ := Rep.slv_vec z3
    simp only [Value.slice.injEq] at s2
    obtain ⟨rfl, sl, rfl⟩ := s2
    exact ⟨b, ad, cap, r3, by rw [q2, sl], by omega, by rw [← sl]; exact q4⟩
   ·cases h
  ·cases h
 ·cases h
theorem keepE_ok (s : St B m E H a w) : ∀ {ks : List Keep} {es : List (Nat × AV)} {hs : List (Nat × Cell)} {ids : List Nat}, keepE E H ks = some (es, hs, ids) → ∃ m', KInv B m H w a m' es hs ids
 | [], _, _, _, h => by
  cases h
  refine ⟨m, ⟨s.h.zl, s.h.zs, s.h.zi, fun _ => trivial, fun _ h => h.elim, fun _ _ _ h => h.elim, fun _ h => h.elim, s.h.kp⟩, fun _ => trivial, fun _ h => h, fun _ h => .inl h, fun _ h => h.elim, by simp⟩
 | k :: l, es, hs, ids, h => by
  unfold keepE at h
  split at h
  ·rename_i es0 hs0 ids0 hl
   obtain ⟨m0, K⟩ := keepE_ok s hl
   split at h
   ·cases h
   ·rename_i hn
    split at h
    ·rename_i t u
     split at h
     ·rename_i hs
      cases h
      exact ⟨m0, K.plain (t0 := t) (v := ofL .junk es0 u) (by rw [sameAV_ok s hs]; exact K.t u)⟩
     ·cases h
    ·rename_i t u
     split at h
     ·rename_i v hv
      cases h
      exact ⟨m0, K.plain (t0 := t) (viewAV_ok s K hv)⟩
     ·cases h
    split at h
    ·rename_i v hk
     cases h
     rcases keep1_ok s K.z hk with ⟨_, _, h1⟩ | ⟨_, _, h1, _⟩ | ⟨_, _, _, h1, _⟩ | ⟨_, h1, _⟩
     ·exact ⟨m0, K.plain (h1 _)⟩
     ·cases h1
     ·cases h1
     ·cases h1
    ·rename_i v c hk
     cases h
     rcases keep1_ok s K.z hk with ⟨_, h1, _⟩ | ⟨e, _, h1, h2, h3⟩ | ⟨_, _, _, h1, _⟩ | ⟨_, h1, _⟩
     ·cases h1
     ·cases h1
      subst h2
      obtain ⟨q1, q2⟩ := K.h.add (ob := .row e []) (hdr := .slice none 0 0) (F := []) (K.fresh hn) ⟨by simp, none, 0, [], [], [], rfl, by simp, rfl, ⟨rfl, rfl⟩, .inl ⟨rfl, rfl, rfl, rfl⟩⟩ (by simp) (by simp) (by simp)
      refine ⟨_, q1, ofL_putT (fun t => (K.t t).evo q2) (one_val ⟨?_, ?_, ?_⟩), K.z, K.zi, fun k' hk' b hb => ?_, fun k' hk' => ?_⟩
      ·rw [upd_same]; simp
      ·intro _ _ _; simp only [Md.set]; rw [upd_same]; exact h3
      ·intro _ _ _; simp only [Md.set]; rw [upd_same]; exact h3
      ·by_cases hk0 : k' = headId k.tmp
       ·subst hk0
        simp only [Md.set] at hb
        rw [upd_same] at hb
        cases hb
       ·rw [ofL_cons, upd_other _ _ hk0] at hk'
        simp only [Md.set] at hb
        rw [upd_other _ _ hk0] at hb
        exact K.own k' hk' b hb
      ·simp only [List.map_cons, List.mem_cons] at hk'
       rcases hk' with rfl | hk'
       ·exact ⟨k.tmp, by simp, rfl⟩
       ·obtain ⟨t, i1, i2⟩ := K.ks k' hk'
        exact ⟨t, by simp at i1 ⊢; exact .inr i1, i2⟩
     ·cases h1
     ·cases h1
    ·rename_i v c id hk
     split at h
     ·cases h
     ·rename_i hid
      split at h
      ·rename_i c'
       cases h
       rcases keep1_ok s K.z hk with ⟨h1, _⟩ | ⟨_, h1, _⟩ | ⟨_, ob, hdr, h1, h2, h3, h4, h5⟩ | ⟨_, _, h1, _⟩
       ·cases h1
       ·cases h1
       ·cases h1; cases h2
        exact ⟨_, K.keep s.h hn hid h3 h4 (h5 _ _ (by simp only [Md.set]; rw [upd_same]) (by rw [upd_same]))⟩
       ·cases h1
      ·cases h
       rcases keep1_ok s K.z hk with ⟨h1, _⟩ | ⟨_, h1, _⟩ | ⟨_, ob, hdr, _, h2, _⟩ | ⟨_, h1, _, hL, h5⟩
       ·cases h1
       ·cases h1
       ·cases h2
       ·cases h1
        have hidn := memN_false.1 hid
        obtain ⟨q1, q2⟩ := K.h.freeze (F := m.ft id) (fun b hb => (s.h.nz id hL b hb).2) fun j hj b hb hb' => by
         obtain ⟨i, i1, i2, i3⟩ := K.own j hj b hb
         exact s.h.sp i id (fun e => hidn (e ▸ i1)) i2 hL b i3 hb'
        refine ⟨_, q1, ofL_putT (fun t => (K.t t).evo q2) ?_, fun b hb => .inl (K.z b hb), fun b hb => ?_, fun k' hk' b hb => ?_, fun k' hk' => ?_⟩
        ·exact h5 _ _ (fun b hb => .inl (K.z b hb)) fun b hb => .inr hb
        ·rcases hb with hb | hb
         ·exact (K.zi b hb).imp_right fun ⟨i, i1, i2⟩ => ⟨i, by simp [i1], i2⟩
         ·exact .inr ⟨id, by simp, hL, hb⟩
        ·obtain ⟨i, i1, i2⟩ := K.own k' hk' b hb
         exact ⟨i, by simp [i1], i2⟩
        ·obtain ⟨t, i1, i2⟩ := K.ks k' hk'
         exact ⟨t, by simp at i1 ⊢; exact .inr i1, i2⟩
    ·cases h
  ·cases h
end
end
end Go.Proofs.Ytadhpgecilhgnaa.A

-- YtadhpgecilhgnaaCtl5
set_option linter.unusedVariables false
set_option linter.unusedSimpArgs false
namespace Go.Proofs.Ytadhpgecilhgnaa.A
open Go
def codeOkB (N : Nat) (fx : List Nat) : Code → Bool
 | .region _ ops _ => ops.toList.all (operOkB N fx)
 | .seq a b => codeOkB N fx a && codeOkB N fx b
 | .cond c a b => opndOkB c && codeOkB N fx a && codeOkB N fx b
 | .block _ b => codeOkB N fx b
 | .loop b => codeOkB N fx b
 | _ => true
def frOkB (N : Nat) (fx : List Nat) : Fr → Bool
 | .seqR b => codeOkB N fx b
 | .blk _ => true
 | .loopF b => codeOkB N fx b

def LoopWp (P : Program) (c : Code) (Q : Exit → Act → World → Prop) (a : Act) (w : World) : Prop :=
 ∀ (b : Frame) (k : List Item) (cs : List Frame), ∃ e a' w', Q e a' w' ∧ Arrives P (lone (b.at a (.code c :: .inLoop c :: k)) cs w) b k cs e a' w'
theorem LoopWp.wp {P : Program} {c : Code} {Q : Exit → Act → World → Prop} {a : Act} {w : World} (h : LoopWp P c Q a w) : (Code.loop c).wp P Q a w :=
 fun b k cs => let ⟨e, a', w', h1, h2⟩ := h b k cs; ⟨e, a', w', h1, .of_steps (.one step_loop) h2⟩
theorem LoopWp.round {P : Program} {c : Code} {Q : Exit → Act → World → Prop} {a : Act} {w : World} (h : c.wp P (Exit.then (LoopWp P c Q) Q) a w) : LoopWp P c Q a w := by
 intro b k cs
 obtain ⟨e, a₁, w₁, hq, harr⟩ := h b (.inLoop c :: k) cs
 cases e with
 | normal =>
  obtain ⟨e₂, a₂, w₂, hq₂, harr₂⟩ := hq b k cs
  exact ⟨e₂, a₂, w₂, hq₂, .of_steps (Steps.trans harr (.one step_inLoop)) harr₂⟩
 | exit id => exact ⟨_, a₁, w₁, hq, .pass (x := .inLoop c) rfl (fun _ _ => .inl (by simp)) harr⟩
 | goto l => exact ⟨_, a₁, w₁, hq, .pass (x := .inLoop c) rfl (fun _ _ => .inl (by simp)) harr⟩
 | ret => exact ⟨_, a₁, w₁, hq, .pass (x := .inLoop c) rfl (fun _ _ => .inl (by simp)) harr⟩
 | panic ch => exact ⟨_, a₁, w₁, hq, .pass (x := .inLoop c) rfl (fun _ _ => .inl (by simp)) harr⟩
 | outgrown => exact ⟨_, a₁, w₁, hq, .pass (x := .inLoop c) rfl (fun _ _ => .inl (by simp)) harr⟩

def QF (P : Program) (Q0 : Exit → Act → World → Prop) : List Fr → Exit → Act → World → Prop
 | [] => Q0
 | .seqR b :: fs => Exit.then (b.wp P (QF P Q0 fs)) (QF P Q0 fs)
 | .blk id :: fs => Exit.inBlock id (QF P Q0 fs)
 | .loopF b :: fs => Exit.then (LoopWp P b (QF P Q0 fs)) (QF P Q0 fs)
def SemC (P : Program) (Q0 : Exit → Act → World → Prop) (c : Code) (fs : List Fr) (a : Act) (w : World) : Prop :=
 match c with
 | .loop b => LoopWp P b (QF P Q0 fs) a w
 | c => c.wp P (QF P Q0 fs) a w
theorem SemC.wp {P : Program} {Q0 : Exit → Act → World → Prop} {c : Code} {fs : List Fr} {a : Act} {w : World} (h : SemC P Q0 c fs a w) : c.wp P (QF P Q0 fs) a w := by
 cases c <;> first | exact h | exact LoopWp.wp h

section
variable {P : Program} {B : Base} {m m' m0 : Md} {H H' : Hp} {w w' : World} {o : Oper} {a : Act} {E : Env} {N : Nat} {tab : Nat → Option TI} {T : Nat → Option FunE} {R : Type} {r : R} {Q0 : Exit → Act → World → Prop}
def LowOk (P : Program) (B : Base) (N : Nat) (Q0 : Exit → Act → World → Prop) {R : Type} (r : R) (L : Low R) : Prop :=
 ∀ (c : Code) (fs : List Fr) (E : Env) (H : Hp) (a : Act) (w : World), codeOkB N B.fx c = true → fs.all (frOkB N B.fx) = true → SE B N E H a w → L c fs E H = some r → SemC P Q0 c fs a w
def KonOk (P : Program) (B : Base) (N : Nat) {R : Type} (r : R) (Q : Exit → Act → World → Prop) (K : Kont R) : Prop :=
 ∀ (x : Exit) (E : Env) (H : Hp) (a : Act) (w : World), SE B N E H a w → K x E H = some r → Q x a w
theorem atCut_ok {L : Low R} (hL : LowOk P B N Q0 r L) {ks : List Keep} {c : Code} {fs : List Fr} (hc : codeOkB N B.fx c = true) (hfs : fs.all (frOkB N B.fx) = true) (s : SE B N E H a w) (h : atCut L ks c fs E H = some r) : SemC P Q0 c fs a w := by
 unfold atCut at h
 split at h
 ·rename_i es hs ids hk
  obtain ⟨m, st, hN, hf⟩ := s
  obtain ⟨m', K⟩ := keepE_ok st hk
  exact hL _ _ _ _ _ _ hc hfs ⟨m', ⟨K.h, K.t, st.d⟩, hN, hf⟩ h
 ·cases h

theorem bool_eval (s : St B m E H a w) {c : Operand} (hc : opndOkB c = true) {b : Bool} (h : evalO E c = .val false [.v .bool b]) : a.eval c = .bool b := by
 have := evalO_ok s hc
 rw [h] at this
 exact this.one.bool

theorem runS_ok (hm : P.follows .mixedOrders = true) (hW : WaysOk P tab T) {ann : Nat → Option (List Keep)} {L : Low R} (hL : LowOk P B N Q0 r L) : ∀ (c : Code) (fs : List Fr) (E : Env) (H : Hp) (a : Act) (w : World) (K : Kont R),
 codeOkB N B.fx c = true → fs.all (frOkB N B.fx) = true → KonOk P B N r (QF P Q0 fs) K → SE B N E H a w → runS tab T ann L c fs E H K = some r → c.wp P (QF P Q0 fs) a w := by
 intro c
 induction c with
 | skip => intro fs E H a w K _ _ hK s h; exact wp_skip (hK _ _ _ _ _ s h)
 | region id ops d =>
  intro fs E H a w K hc _ hK s h
  have hops : ∀ o ∈ ops.toList, operOkB N B.fx o = true := List.all_eq_true.1 hc
  cases d with
  | false => exact region_ok hW hops (fun E H a w s h => hK _ _ _ _ _ s h) s h
  | true =>
   simp only [runS] at h
   split at h
   ·rename_i hB
    exact region_draw_ok hm hW hops (fun E H a w s h => hK _ _ _ _ _ s h) s hB h
   ·cases h
 | seq x y ihx ihy =>
  intro fs E H a w K hc hfs hK s h
  simp only [codeOkB, Bool.and_eq_true] at hc
  refine wp_seq (ihx (.seqR y :: fs) E H a w _ hc.1 (by rw [List.all_cons, Bool.and_eq_true]; exact ⟨hc.2, hfs⟩) (fun e E H a w s h => ?_) s h)
  cases e with
  | normal =>
   simp only at h
   show y.wp P (QF P Q0 fs) a w
   split at h
   ·exact (atCut_ok hL hc.2 hfs s h).wp
   ·exact ihy fs E H a w K hc.2 hfs hK s h
  | exit id => exact hK _ _ _ _ _ s h
  | goto l => exact hK _ _ _ _ _ s h
  | ret => exact hK _ _ _ _ _ s h
  | panic ch => exact hK _ _ _ _ _ s h
  | outgrown => exact hK _ _ _ _ _ s h
 | cond c x y ihx ihy =>
  intro fs E H a w K hc hfs hK s h
  simp only [codeOkB, Bool.and_eq_true] at hc
  obtain ⟨⟨h0, h1⟩, h2⟩ := hc
  have s' := s
  obtain ⟨m, st, hN, hf⟩ := s
  simp only [runS] at h
  unfold condOf at h
  split at h
  ·rename_i t b hcc
   split at hcc
   ·rename_i b' he
    simp only [Option.some.injEq, Prod.mk.injEq] at hcc
    obtain ⟨hcc, rfl⟩ := hcc
    have hev := bool_eval st h0 he
    have hE : E t = bLV b' := by
     cases c <;> simp at hcc
     subst hcc; exact he
    cases b' with
    | true =>
     simp only [if_true] at h
     rw [upd_self _ _ _ hE] at h
     exact wp_cond_true hev (ihx fs E H a w K h1 hfs hK s' h)
    | false =>
     simp only [Bool.false_eq_true, if_false] at h
     rw [upd_self _ _ _ hE] at h
     exact wp_cond_false hev (ihy fs E H a w K h2 hfs hK s' h)
   ·cases hcc
  ·rename_i b hcc
   split at hcc
   ·rename_i b' he
    simp only [Option.some.injEq, Prod.mk.injEq] at hcc
    obtain ⟨hcc, rfl⟩ := hcc
    have hev := bool_eval st h0 he
    cases b' with
    | true =>
     simp only [if_true] at h
     exact wp_cond_true hev (ihx fs E H a w K h1 hfs hK s' h)
    | false =>
     simp only [Bool.false_eq_true, if_false] at h
     exact wp_cond_false hev (ihy fs E H a w K h2 hfs hK s' h)
   ·cases hcc
  ·cases h
 | block id b ih =>
  intro fs E H a w K hc hfs hK s h
  refine wp_block (ih (.blk id :: fs) E H a w _ hc (by rw [List.all_cons, Bool.and_eq_true]; exact ⟨rfl, hfs⟩) (fun e E H a w s h => ?_) s h)
  cases e with
  | exit i =>
   simp only at h
   show if i = id then _ else _
   split at h
   ·rename_i hb
    rw [if_pos (Nat.eq_of_beq_eq_true hb)]
    exact hK _ _ _ _ _ s h
   ·rename_i hb
    rw [if_neg (Nat.ne_of_beq_eq_false hb)]
    exact hK _ _ _ _ _ s h
  | normal => exact hK _ _ _ _ _ s h
  | goto l => exact hK _ _ _ _ _ s h
  | ret => exact hK _ _ _ _ _ s h
  | panic ch => exact hK _ _ _ _ _ s h
  | outgrown => exact hK _ _ _ _ _ s h
 | loop b ih =>
  intro fs E H a w K hc hfs hK s h
  simp only [runS] at h
  split at h
  ·exact (atCut_ok hL (c := .loop b) hc hfs s h).wp
  ·cases h
 | exit id => intro fs E H a w K _ _ hK s h; exact wp_exit (hK _ _ _ _ _ s h)
 | ret => intro fs E H a w K _ _ hK s h; exact wp_ret (hK _ _ _ _ _ s h)
 | _ => intros; rename_i h; simp [runS] at h

theorem clos_ok (hm : P.follows .mixedOrders = true) (hW : WaysOk P tab T) {ann : Nat → Option (List Keep)} {L : Low R} (hL : LowOk P B N Q0 r L) {fin : Kont R} (hfin : KonOk P B N r Q0 fin) : ∀ (fs : List Fr), fs.all (frOkB N B.fx) = true → KonOk P B N r (QF P Q0 fs) (clos tab T ann L fin fs)
 | [], _ => hfin
 | .seqR b :: fs, hfs => by
  rw [List.all_cons, Bool.and_eq_true] at hfs
  have ih := clos_ok (ann := ann) hm hW hL hfin fs hfs.2
  intro e E H a w s h
  cases e with
  | normal =>
   simp only [clos] at h
   show b.wp P (QF P Q0 fs) a w
   split at h
   ·exact (atCut_ok hL hfs.1 hfs.2 s h).wp
   ·exact runS_ok hm hW hL b fs E H a w _ hfs.1 hfs.2 ih s h
  | exit id => exact ih _ _ _ _ _ s h
  | goto l => exact ih _ _ _ _ _ s h
  | ret => exact ih _ _ _ _ _ s h
  | panic ch => exact ih _ _ _ _ _ s h
  | outgrown => exact ih _ _ _ _ _ s h
 | .blk id :: fs, hfs => by
  rw [List.all_cons, Bool.and_eq_true] at hfs
  have ih := clos_ok (ann := ann) hm hW hL hfin fs hfs.2
  intro e E H a w s h
  cases e with
  | exit i =>
   simp only [clos] at h
   show if i = id then _ else _
   split at h
   ·rename_i hb
    rw [if_pos (Nat.eq_of_beq_eq_true hb)]
    exact ih _ _ _ _ _ s h
   ·rename_i hb
    rw [if_neg (Nat.ne_of_beq_eq_false hb)]
    exact ih _ _ _ _ _ s h
  | normal => exact ih _ _ _ _ _ s h
  | goto l => exact ih _ _ _ _ _ s h
  | ret => exact ih _ _ _ _ _ s h
  | panic ch => exact ih _ _ _ _ _ s h
  | outgrown => exact ih _ _ _ _ _ s h
 | .loopF b :: fs, hfs => by
  rw [List.all_cons, Bool.and_eq_true] at hfs
  have ih := clos_ok (ann := ann) hm hW hL hfin fs hfs.2
  intro e E H a w s h
  cases e with
  | normal =>
   simp only [clos] at h
   show LoopWp P b (QF P Q0 fs) a w
   split at h
   ·exact atCut_ok hL (c := .loop b) hfs.1 hfs.2 s h
   ·cases h
  | exit id => exact ih _ _ _ _ _ s h
  | goto l => exact ih _ _ _ _ _ s h
  | ret => exact ih _ _ _ _ _ s h
  | panic ch => exact ih _ _ _ _ _ s h
  | outgrown => exact ih _ _ _ _ _ s h

theorem runN_ok (hm : P.follows .mixedOrders = true) {T : Nat → Nat → Option FunE} {ann : Nat → Option (List Keep)} {fin : Kont R} (hfin : KonOk P B N r Q0 fin) : ∀ n, (∀ k, k < n → WaysOk P tab (T k)) → LowOk P B N Q0 r (runN tab T ann fin n)
 | 0, _ => fun c fs E H a w _ _ _ h => by cases h
 | n + 1, hW => by
  have hL := runN_ok hm (ann := ann) hfin n (fun k hk => hW k (by omega))
  have hW := hW n (by omega)
  intro c fs E H a w hc hfs s h
  unfold runN at h
  cases c with
  | loop b =>
   have hfs' : (Fr.loopF b :: fs).all (frOkB N B.fx) = true := by rw [List.all_cons, Bool.and_eq_true]; exact ⟨hc, hfs⟩
   exact LoopWp.round (runS_ok hm hW hL b (.loopF b :: fs) E H a w _ hc hfs' (clos_ok (ann := ann) hm hW hL hfin _ hfs') s h)
  | _ => exact runS_ok hm hW hL _ fs E H a w _ hc hfs (clos_ok (ann := ann) hm hW hL hfin _ hfs) s h
end
end Go.Proofs.Ytadhpgecilhgnaa.A

-- YtadhpgecilhgnaaFn1
set_option linter.unusedVariables false
set_option linter.unusedSimpArgs false
namespace Go.Proofs.Ytadhpgecilhgnaa.A
open Go

def ArgRep (Z : Nat → Prop) (w : World) (io : Bool) (τ : Ty) (x : τ.den) (v : Value) (F : List Nat) : Prop :=
 match io with
 | true => ∃ b el cs F', v = .pointer (some ⟨b, 0, none⟩) ∧ F = b :: F' ∧ w.heap[b]? = some (.cells cs.toArray el (0, 0)) ∧ Rep Z w τ x cs F'
 | false => ∃ cs, IsV (!τ.one) cs v ∧ Rep Z w τ x cs F
def ArgsRep (Z : Nat → Prop) (w : World) : (ps : List (Bool × Ty)) → (ps.foldr (fun p t => Ty.pair p.2 t) .unit).den → List Value → List Nat → Prop
 | [], _, vs, F => vs = [] ∧ F = []
 | p :: ps, x, vs, F => ∃ v vs' F1 F2, vs = v :: vs' ∧ F = F1 ++ F2 ∧ ArgRep Z w p.1 p.2 x.1 v F1 ∧ ArgsRep Z w ps x.2 vs' F2
def ResL (Z : Nat → Prop) (w : World) : (outs : List Ty) → (outs.foldr Ty.pair .unit).den → List Value → List Nat → Prop
 | [], _, vs, F => vs = [] ∧ F = []
 | τ :: outs, x, vs, F => ∃ v vs' F1 F2, vs = v :: vs' ∧ F = F1 ++ F2 ∧ (∃ cs, IsV (!τ.one) cs v ∧ Rep Z w τ x.1 cs F1) ∧ ResL Z w outs x.2 vs' F2
def tupOf : List Value → Value
 | [v] => v
 | vs => .tuple vs.toArray
def IoRep (Z : Nat → Prop) (w : World) : (ps : List (Bool × Ty)) → (((ps.filter (·.1)).map (·.2)).foldr Ty.pair .unit).den → List Value → List Nat → Prop
 | [], _, _, F => F = []
 | (false, _) :: ps, x, vs, F => IoRep Z w ps x vs.tail F
 | (true, τ) :: ps, x, vs, F => ∃ b el cs F1 F2, vs.head? = some (.pointer (some ⟨b, 0, none⟩)) ∧ F = (b :: F1) ++ F2 ∧ w.heap[b]? = some (.cells cs.toArray el (0, 0)) ∧ Rep Z w τ x.1 cs F1 ∧ IoRep Z w ps x.2 vs.tail F2

structure Post (Z : Nat → Prop) (w : World) (Fs : List Nat) (F : FunE) (vs : List Value) (r : ((F.outs ++ (F.ins.filter (·.1)).map (·.2)).foldr Ty.pair .unit).den) (v : Value) (w' : World) (Z' : Nat → Prop) (us : List Value) (Fr Fi : List Nat) : Prop where
 kp : Kept Fs w w'
 zs : ∀ b, Z b → Z' b
 zl : ∀ b, Z' b → b < w'.heap.size
 zi : ∀ b, Z' b → b < w.heap.size → Z b ∨ b ∈ Fs
 res : ResL Z' w' F.outs (splitRes F.outs _ r).1 us Fr
 v : v = tupOf us
 io : IoRep Z' w' F.ins (splitRes F.outs _ r).2 vs Fi
 nd : (Fi ++ Fr).Nodup
 nz : ∀ b ∈ Fi ++ Fr, ¬ Z' b ∧ b < w'.heap.size ∧ (b < w.heap.size → b ∈ Fs)
def FunOk (P : Program) (f : FuncId) (F : FunE) : Prop := ∀ (Z : Nat → Prop) (w : World) (xs : (F.ins.foldr (fun p t => Ty.pair p.2 t) .unit).den) (vs : List Value) (Fs : List Nat) (r : ((F.outs ++ (F.ins.filter (·.1)).map (·.2)).foldr Ty.pair .unit).den),
 (∀ b, Z b → b < w.heap.size) → ArgsRep Z w F.ins xs vs Fs → Fs.Nodup → (∀ b ∈ Fs, ¬ Z b ∧ b < w.heap.size) → F.f xs = some r →
 Calls P f vs.toArray w fun e w' => ∃ v Z' us Fr Fi, e = .returned v ∧ Post Z w Fs F vs r v w' Z' us Fr Fi

section
variable {P : Program} {B : Base} {m m' m0 : Md} {H H' : Hp} {w w' : World} {o : Oper} {a : Act} {E : Env} {tab : Nat → Option TI} {L : List Nat} {Z1 : Nat → Prop} {Hs : Hp}

theorem slAs_ok {e' e : Ty} {xs : List e'.den} {ys : List e.den} (h : slAs e' e xs = some ys) : e'.pure = true ∧ castTo (.sl e') (.sl e) xs = some ys := by
 unfold slAs at h
 split at h
 ·rename_i hp; exact ⟨hp, h⟩
 ·cases h
def Sub (Hs H : Hp) : Prop := ∀ id, Hs id = .absent ∨ Hs id = H id
theorem Sub.get {Hs H : Hp} (h : Sub Hs H) {id : Nat} {c : Cell} (hc : Hs id = c) (hn : c ≠ .absent) : H id = c := by
 rcases h id with e | e
 ·exact absurd (hc.symm.trans e) hn
 ·rw [← e]; exact hc
theorem Sub.refl (H : Hp) : Sub H H := fun _ => .inr rfl
theorem only_sub {L : List Nat} {H : Hp} : Sub (only H L) H := fun id => by
 unfold only
 split
 ·exact .inr rfl
 ·exact .inl rfl
theorem as_ok (hS : Sub Hs H) (hh : HOk B m H w) {τ : Ty} {l : LV} {x : τ.den} {c : Value} (h : l.as (Hs) τ = some x) (hl : LRep m w H l c) (h1 : τ.one = true) (hz : ∀ b, m.Z b → Z1 b) (hr : ∀ id ∈ slRd l, (H id).Live → ∀ b ∈ m.ft id, Z1 b) : Rep Z1 w τ x [c] [] := by
 have fr : ∀ {τ : Ty} {x : τ.den} {cs : List Value}, Rep m.Z w τ x cs [] → Rep Z1 w τ x cs [] := fun h => h.frame (fun _ _ => rfl) hz (by simp)
 unfold LV.as at h
 split at h
 ·obtain ⟨e, he⟩ := castTo_eq h
  subst e; subst he; exact fr hl
 ·split at h
  ·cases h
   simp only [LRep] at hl
   subst hl
   exact ⟨rfl, by simp, none, 0, rfl, by simp, .inl rfl⟩
  ·cases h
   simp only [LRep] at hl
   subst hl
   exact ⟨by simp, none, 0, [], [], [], rfl, by simp, rfl, ⟨rfl, rfl⟩, .inl ⟨rfl, rfl, rfl, rfl⟩⟩
  ·cases h
   simp only [LRep] at hl
   subst hl
   exact ⟨rfl, rfl⟩
  ·cases h
   simp only [LRep] at hl
   subst hl
   exact ⟨fun _ => rfl, rfl, by simp, none, 0, rfl, by simp, .inl rfl⟩
  ·cases h
 ·rename_i id
  split at h
  ·split at h
   ·rename_i e' xs hx
    obtain ⟨hp, hc⟩ := slAs_ok h
    obtain ⟨e, he⟩ := castTo_eq hc
    cases e; subst he
    have hx := hS.get hx (by simp)
    have hL : (H id).Live := by rw [hx]; trivial
    have hcr := hh.cr id
    rw [hx] at hcr
    rw [hl.2.1 _ _ hx]
    exact Rep.vec_sl hp hcr hz (hr id (by simp [slRd]) hL)
   ·rename_i e' xs hx
    obtain ⟨hp, hc⟩ := slAs_ok h
    obtain ⟨e, he⟩ := castTo_eq hc
    cases e; subst he
    have hx := hS.get hx (by simp)
    have hcr := hh.cr id
    rw [hx] at hcr
    rw [hl.2.2 _ _ hx]
    exact fr hcr
   ·cases h
  ·cases h
 ·rename_i e' xs
  obtain ⟨e, he⟩ := castTo_eq h
  subst e; subst he; exact fr (τ := .sl e') hl
 ·rename_i id
  split at h
  ·split at h
   ·rename_i k' e' mm hx
    obtain ⟨e, he⟩ := castTo_eq h
    cases e; subst he
    have hx := hS.get hx (by simp)
    have hL : (H id).Live := by rw [hx]; trivial
    have hcr := hh.cr id
    rw [hx] at hcr
    rw [hl.2.1 _ _ _ hx]
    exact Rep.map_fmap hcr hz (hr id (by simp [slRd]) hL)
   ·rename_i k' e' mm hx
    obtain ⟨e, he⟩ := castTo_eq h
    cases e; subst he
    have hx := hS.get hx (by simp)
    have hcr := hh.cr id
    rw [hx] at hcr
    rw [hl.2.2 _ _ _ hx]
    exact fr hcr
   ·cases h
  ·cases h
 ·rename_i id g off
  split at h
  ·split at h
   ·rename_i g' ls hx
    split at h
    ·rename_i e' xs hg hls
     obtain ⟨hp, hc⟩ := slAs_ok h
     obtain ⟨e, he⟩ := castTo_eq hc
     cases e; subst he
     obtain rfl := Nat.eq_of_beq_eq_true hg
     have hx := hS.get hx (by simp)
     have hL : (H id).Live := by rw [hx]; trivial
     obtain ⟨b, u, G, k1, k2, k3, k4⟩ := cells_leaf hh hx hls
     obtain ⟨b', k5, k6⟩ := hl.2.2 _ _ _ hx hls
     rw [k1] at k5; cases k5
     rw [k2] at k6; cases k6
     exact Rep.vec_sl hp k3 hz fun b hb => hr id (by simp [slRd]) hL b (k4 b hb)
    ·cases h
   ·cases h
  ·cases h
 ·cases h
theorem asm1_ok (hS : Sub Hs H) (hh : HOk B m H w) {τ : Ty} (h1 : τ.one = true) {ls r : List LV} {x : τ.den} {cs : List Value} (h : asm1 (Hs) τ ls = some (x, r)) (hl : All2 (LRep m w H) ls cs) (hz : ∀ b, m.Z b → Z1 b) (hr : ∀ id ∈ slRds ls, (H id).Live → ∀ b ∈ m.ft id, Z1 b) :
 ∃ c1 c2, cs = c1 ++ c2 ∧ Rep Z1 w τ x c1 [] ∧ All2 (LRep m w H) r c2 ∧ ∀ id ∈ slRds r, id ∈ slRds ls := by
 cases ls with
 | nil => cases h
 | cons l ls =>
  cases cs with
  | nil => exact hl.elim
  | cons c cs =>
   simp only [asm1] at h
   split at h
   ·rename_i y hy
    cases h
    exact ⟨[c], cs, rfl, as_ok hS hh hy hl.1 h1 hz (fun id hid => hr id (by simp [slRds, hid])), hl.2, fun id hid => by simp [slRds, hid]⟩
   ·cases h
theorem asm_ok (hS : Sub Hs H) (hh : HOk B m H w) (hz : ∀ b, m.Z b → Z1 b) : ∀ {τ : Ty} {ls r : List LV} {x : τ.den} {cs : List Value}, asm (Hs) τ ls = some (x, r) → All2 (LRep m w H) ls cs → (∀ id ∈ slRds ls, (H id).Live → ∀ b ∈ m.ft id, Z1 b) →
 ∃ c1 c2, cs = c1 ++ c2 ∧ Rep Z1 w τ x c1 [] ∧ All2 (LRep m w H) r c2 ∧ ∀ id ∈ slRds r, id ∈ slRds ls := by
 intro τ
 induction τ with
 | unit => intro ls r x cs h hl hr; cases h; exact ⟨[], cs, rfl, ⟨rfl, rfl⟩, hl, fun _ h => h⟩
 | pair a b iha ihb =>
  intro ls r x cs h hl hr
  simp only [asm] at h
  split at h
  ·rename_i y ls' h1
   split at h
   ·rename_i z ls'' h2
    cases h
    obtain ⟨c1, c2, e1, g1, g2, g3⟩ := iha h1 hl hr
    obtain ⟨c3, c4, e2, g4, g5, g6⟩ := ihb h2 g2 fun id hid => hr id (g3 id hid)
    exact ⟨c1 ++ c3, c4, by rw [e1, e2, List.append_assoc], ⟨c1, c3, [], [], rfl, rfl, g1, g4⟩, g5, fun id hid => g3 id (g6 id hid)⟩
   ·cases h
  ·cases h
 | bool => intro ls r x cs h hl hr; exact asm1_ok hS hh rfl h hl hz hr
 | int k => intro ls r x cs h hl hr; exact asm1_ok hS hh rfl h hl hz hr
 | str => intro ls r x cs h hl hr; exact asm1_ok hS hh rfl h hl hz hr
 | sl e _ => intro ls r x cs h hl hr; exact asm1_ok hS hh rfl h hl hz hr
 | vec e _ => intro ls r x cs h hl hr; exact asm1_ok hS hh rfl h hl hz hr
 | map k e _ _ => intro ls r x cs h hl hr; exact asm1_ok hS hh rfl h hl hz hr
 | fnv f => intro ls r x cs h hl hr; exact asm1_ok hS hh rfl h hl hz hr
 | nil => intro ls r x cs h hl hr; exact asm1_ok hS hh rfl h hl hz hr
 | ptr e _ => intro ls r x cs h hl hr; exact asm1_ok hS hh rfl h hl hz hr
 | fmap k e _ _ => intro ls r x cs h hl hr; exact asm1_ok hS hh rfl h hl hz hr
 | mapb k e _ _ => intro ls r x cs h hl hr; exact asm1_ok hS hh rfl h hl hz hr
 | nsl e _ => intro ls r x cs h hl hr; exact asm1_ok hS hh rfl h hl hz hr
theorem asmAll_ok (hS : Sub Hs H) (hh : HOk B m H w) (hz : ∀ b, m.Z b → Z1 b) {τ : Ty} {ls : List LV} {x : τ.den} {cs : List Value} (h : asmAll (Hs) τ ls = some x) (hl : All2 (LRep m w H) ls cs) (hr : ∀ id ∈ slRds ls, (H id).Live → ∀ b ∈ m.ft id, Z1 b) : Rep Z1 w τ x cs [] := by
 unfold asmAll at h
 split at h
 ·rename_i y h1
  cases h
  obtain ⟨c1, c2, e, g1, g2, _⟩ := asm_ok hS hh hz h1 hl hr
  cases c2 with
  | nil => rw [e, List.append_nil]; exact g1
  | cons _ _ => exact g2.elim
 ·cases h

theorem ownIn_ok (hS : Sub Hs H) (hh : HOk B m H w) (hz : ∀ b, m.Z b → Z1 b) {τ : Ty} {g : Bool} {ls : List LV} {x : τ.den} {v : Value} (h : ownIn (Hs) τ g ls = some x) (hv : PRep m w H (g, ls) v) (hr : ∀ id ∈ argRd false τ (.val g ls), (H id).Live → ∀ b ∈ m.ft id, Z1 b) :
 (∃ cs, IsV (!τ.one) cs v ∧ Rep Z1 w τ x cs ((ownArg false τ (.val g ls)).flatMap m.ft)) ∧ ∀ id ∈ ownArg false τ (.val g ls), (H id).Live := by
 unfold ownIn at h
 split at h
 ·rename_i hg
  have hg : g = !τ.one := by simpa using hg
  split at h
  ·rename_i e id hg1
   split at h
   ·rename_i e' xs hx
    obtain ⟨he, hxs⟩ := castTo_eq h
    cases he
    have hxs : xs = x := hxs
    subst hxs
    obtain ⟨cs, h1, h2⟩ := hv
    have h1 : IsV g cs v := h1
    have h2 : All2 (LRep m w H) [.row id] cs := h2
    have hx := hS.get hx (by simp)
    have hL : (H id).Live := by rw [hx]; trivial
    have hg0 : g = false := hg
    subst hg0
    have hv1 := AVRep.one (v := v) (m := m) (w := w) (H := H) (l := .row id) ⟨cs, h1, h2⟩
    have hcr := hh.cr id
    rw [hx] at hcr
    refine ⟨⟨[v], rfl, ?_⟩, ?_⟩
    ·simp only [ownArg, List.flatMap_cons, List.flatMap_nil, List.append_nil]
     rw [hv1.2.1 _ _ hx]
     exact Rep.frame (fun _ _ => rfl) hz (fun _ _ => rfl) hcr
    ·simp [ownArg, hL]
   ·cases h
  ·rename_i k e id hg1
   split at h
   ·rename_i g0 k' e' mm hx
    obtain ⟨he, hxs⟩ := castTo_eq h
    cases he
    have hxs : mm = x := hxs
    subst hxs
    obtain ⟨cs, h1, h2⟩ := hv
    have h1 : IsV g cs v := h1
    have h2 : All2 (LRep m w H) [.mbr id] cs := h2
    have hx := hS.get hx (by simp)
    have hL : (H id).Live := by rw [hx]; trivial
    have hg0 : g = false := hg
    subst hg0
    have hv1 := AVRep.one (v := v) (m := m) (w := w) (H := H) (l := .mbr id) ⟨cs, h1, h2⟩
    have hcr := hh.cr id
    rw [hx] at hcr
    refine ⟨⟨[v], rfl, ?_⟩, ?_⟩
    ·simp only [ownArg, List.flatMap_cons, List.flatMap_nil, List.append_nil]
     rw [hv1.2 _ _ _ _ _ hx]
     obtain ⟨b, ents, clock, F', q1, q2, q3, q4, q5⟩ := hcr
     refine Rep.frame (τ := .mapb k e) (fun _ _ => rfl) hz (fun _ _ => rfl) ⟨b, ents, clock, F', by rw [q1], q2, q3, q4, q5⟩
    ·simp [ownArg, hL]
   ·cases h
  ·rename_i hne hne2
   have ho : ownArg false τ (.val g ls) = [] := by
    unfold ownArg
    split
    ·rfl
    ·rename_i id heq
     simp only [AV.val.injEq] at heq
     obtain ⟨_, rfl⟩ := heq
     split
     ·exact absurd rfl (hne _ _ rfl)
     ·rfl
    ·rename_i id heq
     simp only [AV.val.injEq] at heq
     obtain ⟨_, rfl⟩ := heq
     split
     ·exact absurd rfl (hne2 _ _ _ rfl)
     ·rfl
    ·rfl
   have ho2 : argRd false τ (.val g ls) = slRds ls := by unfold argRd; rw [ho]
   rw [ho2] at hr
   rw [ho]
   obtain ⟨cs, h1, h2⟩ := hv
   exact ⟨⟨cs, by rw [← hg]; exact h1, asmAll_ok hS hh hz h h2 hr⟩, by simp⟩
 ·cases h
end
end Go.Proofs.Ytadhpgecilhgnaa.A

-- YtadhpgecilhgnaaFn2
set_option linter.unusedVariables false
set_option linter.unusedSimpArgs false
namespace Go.Proofs.Ytadhpgecilhgnaa.A
open Go
section
variable {P : Program} {B : Base} {m m' m0 : Md} {H H' : Hp} {w w' : World} {o : Oper} {a : Act} {E : Env} {tab : Nat → Option TI} {T : Nat → Option FunE} {L : List Nat} {Z1 Zf : Nat → Prop}

theorem args_ok (hh : HOk B m H w) (hz : ∀ b, m.Z b → Z1 b) : ∀ {ps : List (Bool × Ty)} {as_ : List AV} {vs : List Value} {xs : (ps.foldr (fun p t => Ty.pair p.2 t) .unit).den}, argsIn (only H L) ps as_ = some xs → All2 (AVRep m w H) as_ vs →
 (∀ id ∈ rdIds ps as_, (H id).Live → ∀ b ∈ m.ft id, Z1 b) → ArgsRep Z1 w ps xs vs ((argOwns ps as_).flatMap m.ft) ∧ ∀ id ∈ argOwns ps as_, (H id).Live
 | [], [], vs, xs, _, hv, _ => by
  have : vs = [] := by cases vs with | nil => rfl | cons _ _ => exact hv.elim
  subst this
  exact ⟨⟨rfl, rfl⟩, by simp [argOwns]⟩
 | [], _ :: _, _, _, h, _, _ => by cases h
 | _ :: _, [], _, _, h, _, _ => by cases h
 | p :: ps, a :: as_, [], _, _, hv, _ => hv.elim
 | p :: ps, a :: as_, v :: vs, xs, h, hv, hr => by
  simp only [argsIn] at h
  split at h
  ·rename_i x xs' hx hxs
   cases h
   obtain ⟨g1, g2⟩ := args_ok hh hz hxs hv.2 fun id hid => hr id (by simp [rdIds, hid])
   have hr1 : ∀ id ∈ argRd p.1 p.2 a, (H id).Live → ∀ b ∈ m.ft id, Z1 b := fun id hid => hr id (by simp [rdIds, hid])
   have key : ArgRep Z1 w p.1 p.2 x v ((ownArg p.1 p.2 a).flatMap m.ft) ∧ ∀ id ∈ ownArg p.1 p.2 a, (H id).Live := by
    obtain ⟨io, τ⟩ := p
    simp only at hx hr1 ⊢
    unfold argIn at hx
    split at hx
    ·rename_i id _
     split at hx
     ·rename_i g ls hc
      have hc := live_of_only hc
      have hL : (H id).Live := by rw [hc]; trivial
      have hcr := hh.cr id
      rw [hc] at hcr
      obtain ⟨b, el, cs, F', k1, k2, k3, k4⟩ := hcr
      obtain ⟨b', k5, k6⟩ := (AVRep.one hv.1).2 _ _ hc
      rw [k1] at k5; cases k5
      refine ⟨⟨b, el, cs, F', k6, by simp [ownArg, k2], k3, Rep.frame (fun _ _ => rfl) hz (fun _ _ => rfl) (asmAllO hx k4)⟩, by simp [ownArg, hL]⟩
     ·cases hx
    ·rename_i g ls
     exact ownIn_ok only_sub hh hz hx hv.1 hr1
    ·cases hx
   refine ⟨⟨v, vs, _, _, rfl, ?_, key.1, g1⟩, fun id hid => ?_⟩
   ·simp [argOwns, List.flatMap_append]
   ·simp only [argOwns, List.mem_append] at hid
    exact hid.elim (key.2 id) (g2 id)
  ·cases h

structure Upd where
 id : Nat
 ob : Obj
 hd : Value
 F : List Nat
def Md.sets (m : Md) (Z : Nat → Prop) (us : List Upd) : Md :=
 { Z := Z, hd := fun k => (match us.find? (fun u => u.id == k) with | some u => u.hd | none => m.hd k), ft := fun k => (match us.find? (fun u => u.id == k) with | some u => u.F | none => m.ft k) }
theorem find_upd : ∀ {us : List Upd}, (us.map (·.id)).Nodup → ∀ {u : Upd}, u ∈ us → us.find? (fun v => v.id == u.id) = some u
 | v :: us, hn, u, hu => by
  simp only [List.map_cons, List.nodup_cons] at hn
  rcases List.mem_cons.1 hu with rfl | hu
  ·simp
  ·have : v.id ≠ u.id := fun e => hn.1 (e ▸ List.mem_map.2 ⟨u, hu, rfl⟩)
   rw [List.find?_cons_of_neg (by simpa using this)]
   exact find_upd hn.2 hu
theorem sets_in {us : List Upd} (hn : (us.map (·.id)).Nodup) {u : Upd} (hu : u ∈ us) : (m.sets Z1 us).hd u.id = u.hd ∧ (m.sets Z1 us).ft u.id = u.F := by
 simp only [Md.sets, find_upd hn hu, and_self]
theorem sets_out {us : List Upd} {k : Nat} (hk : k ∉ us.map (·.id)) : (m.sets Z1 us).hd k = m.hd k ∧ (m.sets Z1 us).ft k = m.ft k := by
 have : us.find? (fun u => u.id == k) = none := by
  rw [List.find?_eq_none]
  intro u hu he
  exact hk (List.mem_map.2 ⟨u, hu, by simpa using he⟩)
 simp only [Md.sets, this, and_self]

theorem flatB_rep {Z Z' : Nat → Prop} {w w' : World} : ∀ {τ : Ty} {x : τ.den} {cs : List Value} {F : List Nat}, τ.flatB = true → Rep Z w τ x cs F → Rep Z' w' τ x cs F := by
 intro τ
 induction τ with
 | pair a b iha ihb =>
  intro x cs F hf ⟨c1, c2, F1, F2, h1, h2, h3, h4⟩
  simp only [Ty.flatB, Bool.and_eq_true] at hf
  exact ⟨c1, c2, F1, F2, h1, h2, iha hf.1 h3, ihb hf.2 h4⟩
 | sl e _ => intro x cs F hf; cases hf
 | vec e _ => intro x cs F hf; cases hf
 | map k e _ _ => intro x cs F hf; cases hf
 | fmap k e _ _ => intro x cs F hf; cases hf
 | mapb k e _ _ => intro x cs F hf; cases hf
 | nsl e _ => intro x cs F hf; cases hf
 | unit => intro x cs F _ h; exact h
 | bool => intro x cs F _ h; exact h
 | int k => intro x cs F _ h; exact h
 | str => intro x cs F _ h; exact h
 | fnv f => intro x cs F _ h; exact h
 | nil => intro x cs F _ h; exact h
 | ptr e _ => intro x cs F hf; cases hf
theorem ResL.flat {Z Z' : Nat → Prop} {w w' : World} : ∀ {outs : List Ty} {x : (outs.foldr Ty.pair .unit).den} {us : List Value} {F : List Nat}, outs.all Ty.flatB = true → ResL Z w outs x us F → ResL Z' w' outs x us F
 | [], _, _, _, _, h => h
 | τ :: outs, x, us, F, hf, ⟨v, vs', F1, F2, h1, h2, ⟨cs, h3, h4⟩, h5⟩ => by
  rw [List.all_cons, Bool.and_eq_true] at hf
  exact ⟨v, vs', F1, F2, h1, h2, ⟨cs, h3, flatB_rep hf.1 h4⟩, ResL.flat hf.2 h5⟩
theorem IoRep.flat {Z Z' : Nat → Prop} {w : World} : ∀ {ps : List (Bool × Ty)} {x : (((ps.filter (·.1)).map (·.2)).foldr Ty.pair .unit).den} {vs : List Value} {F : List Nat}, (ps.all fun p => !p.1 || p.2.flatB) = true → IoRep Z w ps x vs F → IoRep Z' w ps x vs F
 | [], _, _, _, _, h => h
 | (false, _) :: ps, x, vs, F, hf, h => by
  rw [List.all_cons, Bool.and_eq_true] at hf
  exact IoRep.flat (ps := ps) hf.2 h
 | (true, τ) :: ps, x, vs, F, hf, ⟨b, el, cs, F1, F2, h1, h2, h3, h4, h5⟩ => by
  rw [List.all_cons, Bool.and_eq_true] at hf
  exact ⟨b, el, cs, F1, F2, h1, h2, h3, flatB_rep (by simpa using hf.1) h4, IoRep.flat (ps := ps) hf.2 h5⟩

theorem res_ok {d : Nat} : ∀ {j : Nat} {outs : List Ty} {x : (outs.foldr Ty.pair .unit).den} {us : List Value} {F : List Nat}, (outs.all fun τ => τ.pure || τ.vecP || τ.mapP) = true → ResL Zf w outs x us F →
 ∃ ups : List Upd, ups.map (·.id) = resIds d j outs ∧ ups.map (fun u => (u.id, Cell.live u.ob)) = (resAll d j outs x).2 ∧ ups.flatMap (·.F) = F ∧ (∀ u ∈ ups, ORep Zf w u.ob u.hd u.F) ∧
  ∀ (m' : Md) (H' : Hp), m'.Z = Zf → (∀ u ∈ ups, m'.hd u.id = u.hd ∧ H' u.id = .live u.ob) → All2 (PRep m' w H') (resAll d j outs x).1 us
 | _, [], _, _, _, _, ⟨h1, h2⟩ => by subst h1; subst h2; exact ⟨[], rfl, rfl, rfl, by simp, fun _ _ _ _ => trivial⟩
 | j, τ :: outs, x, us, F, hp, ⟨v, vs', F1, F2, h1, h2, ⟨cs, h3, h4⟩, h5⟩ => by
  rw [List.all_cons, Bool.and_eq_true] at hp
  subst h1; subst h2
  obtain ⟨ups, k1, k2, k3, k4, k5⟩ := res_ok (d := d) (j := j + 1) hp.2 h5
  have plain : τ.pure = true → resLeaves (d + 100000 * j) τ x.1 = ((!τ.one, flat τ x.1), []) → resIds d j (τ :: outs) = resIds d (j + 1) outs → ∃ ups : List Upd, ups.map (·.id) = resIds d j (τ :: outs) ∧ ups.map (fun u => (u.id, Cell.live u.ob)) = (resAll d j (τ :: outs) x).2 ∧ ups.flatMap (·.F) = F1 ++ F2 ∧ (∀ u ∈ ups, ORep Zf w u.ob u.hd u.F) ∧
   ∀ (m' : Md) (H' : Hp), m'.Z = Zf → (∀ u ∈ ups, m'.hd u.id = u.hd ∧ H' u.id = .live u.ob) → All2 (PRep m' w H') (resAll d j (τ :: outs) x).1 (v :: vs') := by
   intro hpu hl hi
   have hF1 := h4.pure hpu
   subst hF1
   refine ⟨ups, by rw [hi]; exact k1, ?_, by simpa using k3, k4, fun m' H' e1 e2 => ?_⟩
   ·simp only [resAll, hl, List.nil_append]; exact k2
   ·simp only [resAll, hl]
    refine ⟨⟨cs, h3, flat_all2 (m := m') (H := H') (by rw [e1]; exact h4)⟩, k5 m' H' e1 e2⟩
  cases τ with
  | vec e =>
   have h3 : cs = [v] := h3
   subst h3
   refine ⟨⟨d + 100000 * j, .row e x.1, v, F1⟩ :: ups, by simp [resIds, k1], ?_, by simp [k3], ?_, fun m' H' e1 e2 => ?_⟩
   ·simp only [resAll, resLeaves, List.map_cons, List.singleton_append, k2]
   ·intro u hu
    rcases List.mem_cons.1 hu with rfl | hu
    ·exact h4
    ·exact k4 u hu
   ·obtain ⟨q1, q2⟩ := e2 _ (List.mem_cons_self ..)
    simp only at q1 q2
    simp only [resAll, resLeaves]
    refine ⟨⟨[v], rfl, ⟨by rw [q2]; simp, fun _ _ _ => q1.symm, fun _ _ _ => q1.symm⟩, trivial⟩, k5 m' H' e1 fun u hu => e2 u (by simp [hu])⟩
  | pair a b => exact plain (by simpa [Ty.vecP, Ty.mapP] using hp.1) rfl rfl
  | unit => exact plain rfl rfl rfl
  | bool => exact plain rfl rfl rfl
  | int k => exact plain rfl rfl rfl
  | str => exact plain rfl rfl rfl
  | sl e => exact plain (by simpa [Ty.vecP, Ty.mapP] using hp.1) rfl rfl
  | nsl e => exact plain (by simpa [Ty.vecP, Ty.mapP] using hp.1) rfl rfl
  | map k e => simp [Ty.pure, Ty.vecP, Ty.mapP] at hp
  | fnv f => exact plain rfl rfl rfl
  | nil => exact plain rfl rfl rfl
  | fmap k e => exact plain rfl rfl rfl
  | ptr e => simp [Ty.pure, Ty.vecP, Ty.mapP] at hp
  | mapb k e =>
   have h3 : cs = [v] := h3
   subst h3
   refine ⟨⟨d + 100000 * j, .mapb 0 k e x.1 none, v, F1⟩ :: ups, by simp [resIds, k1], ?_, by simp [k3], ?_, fun m' H' e1 e2 => ?_⟩
   ·simp only [resAll, resLeaves, List.map_cons, List.singleton_append, k2]
   ·intro u hu
    rcases List.mem_cons.1 hu with rfl | hu
    ·obtain ⟨b, ents, clock, F', q1, q2, q3, q4, q5⟩ := h4
     exact ⟨b, ents, clock, F', by simpa using q1, q2, q3, q4, q5⟩
    ·exact k4 u hu
   ·obtain ⟨q1, q2⟩ := e2 _ (List.mem_cons_self ..)
    simp only at q1 q2
    simp only [resAll, resLeaves]
    refine ⟨⟨[v], rfl, ⟨by rw [q2]; simp, fun _ _ _ _ _ _ => q1.symm⟩, trivial⟩, k5 m' H' e1 fun u hu => e2 u (by simp [hu])⟩

theorem io_ok (hh : HOk B m H w) : ∀ {ps : List (Bool × Ty)} {as_ : List AV} {vs : List Value} {xs : (ps.foldr (fun p t => Ty.pair p.2 t) .unit).den} {x : (((ps.filter (·.1)).map (·.2)).foldr Ty.pair .unit).den} {F : List Nat},
 argsIn (only H L) ps as_ = some xs → All2 (AVRep m w H) as_ vs → IoRep Zf w' ps x vs F →
 (outsOf (only H L) ps as_ x).map (·.1) = argOwns ps as_ ∧ ∃ us : List Upd, (∀ u ∈ us, (u.id, Cell.live u.ob) ∈ outsOf (only H L) ps as_ x) ∧ (∀ p ∈ outsOf (only H L) ps as_ x, p.2 = .dead ∨ ∃ u ∈ us, p = (u.id, .live u.ob)) ∧
  us.flatMap (·.F) = F ∧ (∀ u ∈ us, ORep Zf w' u.ob u.hd u.F ∧ u.hd = m.hd u.id ∧ ∃ g ls ls', H u.id = .live (.cells g ls) ∧ u.ob = .cells (g + 1) ls') ∧ (us.map (·.id)).Sublist (argOwns ps as_)
 | [], [], vs, xs, x, F, _, _, hF => by
  have hF : F = [] := hF
  subst hF
  exact ⟨rfl, [], by simp, by simp [outsOf], rfl, by simp, by simp [argOwns]⟩
 | [], _ :: _, _, _, _, _, h, _, _ => by cases h
 | _ :: _, [], _, _, _, _, h, _, _ => by cases h
 | p :: ps, a :: as_, [], _, _, _, _, hv, _ => hv.elim
 | (false, τ) :: ps, a :: as_, v :: vs, xs, x, F, h, hv, hi => by
  simp only [argsIn] at h
  split at h
  ·rename_i y xs' hy hxs
   obtain ⟨g1, us, g2, g3, g4, g5, g6⟩ := io_ok hh hxs hv.2 (show IoRep Zf w' ps x vs F from hi)
   refine ⟨?_, us, fun u hu => ?_, fun q hq => ?_, g4, g5, ?_⟩
   ·simp only [outsOf, argOwns, List.map_append, g1]
    congr 1
    rw [List.map_map]
    exact List.map_id _
   ·simp only [outsOf]; exact List.mem_append_right _ (g2 u hu)
   ·simp only [outsOf, List.mem_append] at hq
    rcases hq with hq | hq
    ·obtain ⟨i, _, rfl⟩ := List.mem_map.1 hq
     exact .inl rfl
    ·exact g3 q hq
   ·simp only [argOwns]
    exact g6.trans (List.sublist_append_right _ _)
  ·cases h
 | (true, τ) :: ps, a :: as_, v :: vs, xs, x, F, h, hv, ⟨b, el, cs, F1, F2, h1, h2, h3, h4, h5⟩ => by
  simp only [argsIn] at h
  split at h
  ·rename_i y xs' hy hxs
   obtain ⟨g1, us, g2, g3, g4, g5, g6⟩ := io_ok hh hxs hv.2 (show IoRep Zf w' ps x.2 vs F2 from h5)
   simp only at hy
   unfold argIn at hy
   split at hy
   ·rename_i id _
    split at hy
    ·rename_i g ls hc
     have hce := hc
     have hc := live_of_only hc
     have hcr := hh.cr id
     rw [hc] at hcr
     obtain ⟨b', el', cs', F', k1, k2, k3, k4⟩ := hcr
     obtain ⟨b'', k5, k6⟩ := (AVRep.one hv.1).2 _ _ hc
     rw [k1] at k5; cases k5
     simp only [List.head?_cons, Option.some.injEq] at h1
     rw [k6] at h1; cases h1
     have hver : verOf (only H L id) = g := by rw [hce]; rfl
     refine ⟨?_, ⟨id, .cells (g + 1) (flat τ x.1), m.hd id, b :: F1⟩ :: us, fun u hu => ?_, fun q hq => ?_, ?_, fun u hu => ?_, ?_⟩
     ·simp only [outsOf, argOwns, ownArg, List.map_cons, g1, List.singleton_append]
     ·rcases List.mem_cons.1 hu with rfl | hu
      ·simp only [outsOf, hver]; exact List.mem_cons_self ..
      ·simp only [outsOf]; exact List.mem_cons_of_mem _ (g2 u hu)
     ·simp only [outsOf, hver] at hq
      rcases List.mem_cons.1 hq with rfl | hq
      ·exact .inr ⟨_, List.mem_cons_self .., rfl⟩
      ·exact (g3 q hq).imp_right fun ⟨u, u1, u2⟩ => ⟨u, List.mem_cons_of_mem _ u1, u2⟩
     ·simp [g4, h2]
     ·rcases List.mem_cons.1 hu with rfl | hu
      ·exact ⟨⟨b, el, cs, F1, k1, rfl, h3, flat_ok h4⟩, rfl, g, ls, _, hc, rfl⟩
      ·exact g5 u hu
     ·simp only [argOwns, ownArg, List.map_cons, List.singleton_append]
      exact g6.cons_cons _
    ·cases hy
   ·contradiction
   ·cases hy
  ·cases h
end
end Go.Proofs.Ytadhpgecilhgnaa.A

-- YtadhpgecilhgnaaFn3
set_option linter.unusedVariables false
set_option linter.unusedSimpArgs false
namespace Go.Proofs.Ytadhpgecilhgnaa.A
open Go
section
variable {P : Program} {B : Base} {m m' m0 : Md} {H H' : Hp} {w w' : World} {o : Oper} {a : Act} {E : Env} {tab : Nat → Option TI} {T : Nat → Option FunE} {L : List Nat} {Z1 Zf : Nat → Prop}

theorem keys_one : ∀ {l : List (Nat × Cell)}, (l.map (·.1)).Nodup → ∀ {p q : Nat × Cell}, p ∈ l → q ∈ l → p.1 = q.1 → p = q
 | x :: l, hn, p, q, hp, hq, e => by
  simp only [List.map_cons, List.nodup_cons] at hn
  rcases List.mem_cons.1 hp with e1 | hp' <;> rcases List.mem_cons.1 hq with e2 | hq'
  ·rw [e1, e2]
  ·subst e1; exact absurd (List.mem_map.2 ⟨q, hq', e.symm⟩) hn.1
  ·subst e2; exact absurd (List.mem_map.2 ⟨p, hp', e⟩) hn.1
  ·exact keys_one hn.2 hp' hq' e
theorem putH_get : ∀ {ups : List (Nat × Cell)} {H : Hp} {k : Nat} {c : Cell}, (∀ p ∈ ups, p.1 = k → p.2 = c) → (∃ p ∈ ups, p.1 = k) → putH H ups k = c
 | [], _, _, _, _, ⟨_, h, _⟩ => by cases h
 | p :: ups, H, k, c, h, hx => by
  rw [putH]
  by_cases hk : ∃ q ∈ ups, q.1 = k
  ·exact putH_get (fun q hq => h q (by simp [hq])) hk
  ·rw [putH_notin (fun hm => hk (by obtain ⟨q, q1, q2⟩ := List.mem_map.1 hm; exact ⟨q, q1, q2⟩))]
   obtain ⟨q, q1, q2⟩ := hx
   rcases List.mem_cons.1 q1 with rfl | q1
   ·rw [← q2, upd_same]; exact h q (by simp) q2
   ·exact absurd ⟨q, q1, q2⟩ hk
theorem freeze_mem : ∀ {l : List Nat} {p : Nat × Cell}, p ∈ freezeUps H l → p.1 ∈ l ∧ Fz (H p.1) p.2
 | [], _, h => by simp [freezeUps] at h
 | id :: l, p, h => by
  unfold freezeUps at h
  split at h
  ·rename_i e xs hx
   rcases List.mem_cons.1 h with rfl | h
   ·exact ⟨by simp, .inl ⟨e, xs, hx, rfl⟩⟩
   ·obtain ⟨h1, h2⟩ := freeze_mem h
    exact ⟨by simp [h1], h2⟩
  ·rename_i k e mm hx
   rcases List.mem_cons.1 h with rfl | h
   ·exact ⟨by simp, .inr ⟨k, e, mm, hx, rfl⟩⟩
   ·obtain ⟨h1, h2⟩ := freeze_mem h
    exact ⟨by simp [h1], h2⟩
  ·obtain ⟨h1, h2⟩ := freeze_mem h
   exact ⟨by simp [h1], h2⟩
theorem freeze_of : ∀ {l : List Nat} {r : Nat} {c : Cell}, r ∈ l → Fz (H r) c → (r, c) ∈ freezeUps H l
 | id :: l, r, c, h, hx => by
  unfold freezeUps
  rcases List.mem_cons.1 h with rfl | h
  ·rcases hx with ⟨e, xs, h1, rfl⟩ | ⟨k, e, mm, h1, rfl⟩ <;> rw [h1] <;> exact List.mem_cons_self ..
  ·split
   ·exact List.mem_cons_of_mem _ (freeze_of h hx)
   ·exact List.mem_cons_of_mem _ (freeze_of h hx)
   ·exact freeze_of h hx
theorem rowish_live {c : Cell} (h : rowish c = true) (hl : c.Live) : ∃ c', Fz c c' := by
 cases c with
 | live ob =>
  cases ob with
  | row e xs => exact ⟨_, .inl ⟨e, xs, rfl, rfl⟩⟩
  | mapo k e mm => exact ⟨_, .inr ⟨k, e, mm, rfl, rfl⟩⟩
  | _ => cases h
 | _ => exact hl.elim
theorem flatMap_nodup {us : List Upd} (h : (us.flatMap (·.F)).Nodup) {u : Upd} (hu : u ∈ us) : u.F.Nodup := by
 induction us with
 | nil => cases hu
 | cons x us ih =>
  rw [List.flatMap_cons, List.nodup_append] at h
  rcases List.mem_cons.1 hu with rfl | hu
  ·exact h.1
  ·exact ih h.2.1 hu
theorem flatMap_disj {us : List Upd} (h : (us.flatMap (·.F)).Nodup) {u v : Upd} (hu : u ∈ us) (hv : v ∈ us) (hne : u ≠ v) {b : Nat} (hb : b ∈ u.F) : b ∉ v.F := by
 induction us with
 | nil => cases hu
 | cons x us ih =>
  rw [List.flatMap_cons, List.nodup_append] at h
  intro hbv
  rcases List.mem_cons.1 hu with e1 | hu' <;> rcases List.mem_cons.1 hv with e2 | hv'
  ·exact hne (e1.trans e2.symm)
  ·subst e1; exact h.2.2 b hb b (List.mem_flatMap.2 ⟨v, hv', hbv⟩) rfl
  ·subst e2; exact h.2.2 b hbv b (List.mem_flatMap.2 ⟨u, hu', hb⟩) rfl
  ·exact ih h.2.1 hu' hv' hbv
theorem avOf_ok {ps : List (Bool × List LV)} {us : List Value} (h : All2 (PRep m w H) ps us) : AVRep m w H (avOf ps) (tupOf us) := by
 match ps, us, h with
 | [], [], _ => exact ⟨[], rfl, trivial⟩
 | [(g, ls)], [u], h => exact h.1
 | p :: q :: ps, u :: v :: us, h =>
  have : avOf (p :: q :: ps) = .tup (p :: q :: ps) := by
   obtain ⟨g, ls⟩ := p; rfl
  rw [this]
  exact ⟨u :: v :: us, rfl, h⟩

theorem wCallF_ok {F : FunE} {f : FuncId} (hF : FunOk P f F) (hh : HOk B m H w) {as_ : List AV} {vs : List Value} (hv : All2 (AVRep m w H) as_ vs) (ex : (execOp a.eval o).run P w = .ok (.enter f vs.toArray) w) : WayOk P B m H w o a (wCallF F o.dst as_) := by
 intro Q hQ
 unfold wCallF at hQ
 simp only at hQ
 generalize hlends : (!(F.outs.all Ty.flatB && (F.ins.all fun p => !p.1 || p.2.flatB))) = lends at hQ
 generalize hrows : rdIds F.ins as_ = rows at hQ
 generalize howns : argOwns F.ins as_ = owns at hQ
 generalize hnews : resIds (o.dst.getD 99999) 0 F.outs = news at hQ
 generalize hLL : ((if lends = true then [] else rows) ++ (owns ++ news ++ if lends = true then rows else [])) = LL at hQ
 have hLo : ∀ i ∈ owns, i ∈ LL := fun i hi => by rw [← hLL]; simp [hi]
 have hLn : ∀ i ∈ news, i ∈ LL := fun i hi => by rw [← hLL]; simp [hi]
 have hLr : ∀ i ∈ rows, i ∈ LL := fun i hi => by rw [← hLL]; cases lends <;> simp [hi]
 split at hQ
 ·rename_i hc
  simp only [Bool.and_eq_true] at hc
  obtain ⟨⟨⟨⟨⟨c1, c2⟩, c3⟩, c4⟩, c5⟩, c6⟩ := hc
  have c1 := nodupN_iff.1 c1
  have c2 : ∀ i ∈ owns, i ∉ rows := fun i hi => by
   have := List.all_eq_true.1 c2 i hi
   exact memN_false.1 (by simpa using this)
  have c3 : ∀ i ∈ news, H i = .absent := fun i hi => absent_of (List.all_eq_true.1 c3 i hi) (hLn i hi)
  split at hQ
  ·rename_i xs hxs
   obtain ⟨r, hr, hQ⟩ := hQ
   have hQ : Q _ := hQ
   let Z1 : Nat → Prop := fun b => m.Z b ∨ ∃ id ∈ rows, (H id).Live ∧ b ∈ m.ft id
   obtain ⟨g1, g2⟩ := args_ok (Z1 := Z1) hh (fun b hb => .inl hb) hxs hv (fun id hid hl b hb => .inr ⟨id, by rw [← hrows]; exact hid, hl, hb⟩)
   rw [howns] at g1 g2
   have hnd := List.nodup_append.1 c1
   have hFs : ∀ b ∈ owns.flatMap m.ft, ¬ Z1 b ∧ b < w.heap.size := fun b hb => by
    obtain ⟨i, i1, i2, i3⟩ := ft_blk hb g2
    obtain ⟨n1, n2, _⟩ := hh.nz i i2 b i3
    refine ⟨fun hz => hz.elim n1 fun ⟨j, j1, j2, j3⟩ => ?_, n2⟩
    exact hh.sp i j (fun e => c2 i i1 (e ▸ j1)) i2 j2 b i3 j3
   have hZ1l : ∀ b, Z1 b → b < w.heap.size := fun b hb => hb.elim (hh.zl b) fun ⟨j, j1, j2, j3⟩ => (hh.nz j j2 b j3).2.1
   have call := hF Z1 w xs vs _ r hZ1l g1 (ft_nodup hh hnd.1 g2) hFs hr
   refine ⟨_, _, hQ, ?_⟩
   unfold OpOk
   rw [ex]
   refine call.mono fun e w' ⟨v, Z', us, Fr, Fi, he, p⟩ => ⟨v, he, ?_⟩
   let Zf : Nat → Prop := if lends = true then Z' else m.Z
   have hlz : lends = true → Zf = Z' := fun h => if_pos h
   have hnz : lends = false → Zf = m.Z := fun h => if_neg (by simp [h])
   have hfl : lends = false → F.outs.all Ty.flatB = true ∧ (F.ins.all fun p => !p.1 || p.2.flatB) = true := fun h => by
    rw [h] at hlends; simpa using hlends
   have hres : ResL Zf w' F.outs (splitRes F.outs _ r).1 us Fr := by
    cases hl : lends with
    | true => rw [hlz hl]; exact p.res
    | false => exact ResL.flat (hfl hl).1 p.res
   have hio : IoRep Zf w' F.ins (splitRes F.outs _ r).2 vs Fi := by
    cases hl : lends with
    | true => rw [hlz hl]; exact p.io
    | false => exact IoRep.flat (hfl hl).2 p.io
   have hZZ : ∀ b, Zf b → Z' b := fun b hb => by
    cases hl : lends with
    | true => rw [hlz hl] at hb; exact hb
    | false => rw [hnz hl] at hb; exact p.zs b (.inl hb)
   have hmZ : ∀ b, m.Z b → Zf b := fun b hb => by
    cases hl : lends with
    | true => rw [hlz hl]; exact p.zs b (.inl hb)
    | false => rw [hnz hl]; exact hb
   obtain ⟨ur, r1, r2, r3, r4, r5⟩ := res_ok (d := o.dst.getD 99999) (j := 0) c5 hres
   rw [hnews] at r1
   obtain ⟨o1, ui, o2, o3, o4, o5, o6⟩ := io_ok (Zf := Zf) hh hxs hv hio
   rw [howns] at o1 o6
   have hkp := p.kp
   have hold : ∀ b, b < w.heap.size → b ∉ owns.flatMap m.ft → w'.heap[b]? = w.heap[b]? := hkp.block
   have hui : ∀ u ∈ ui, u.id ∈ owns := fun u hu => o6.subset (List.mem_map.2 ⟨u, hu, rfl⟩)
   have hur : ∀ u ∈ ur, u.id ∈ news := fun u hu => by rw [← r1]; exact List.mem_map.2 ⟨u, hu, rfl⟩
   have hids : ((ui ++ ur).map (·.id)).Nodup := by
    rw [List.map_append, r1, List.nodup_append]
    exact ⟨hnd.1.sublist o6, hnd.2.1, fun x hx y hy => hnd.2.2 x (o6.subset hx) y hy⟩
   -- the objects behind the call
   generalize hO : outsOf (only H LL) F.ins as_ (splitRes F.outs _ r).2 = O at *
   generalize hN : (resAll (o.dst.getD 99999) 0 F.outs (splitRes F.outs _ r).1).2 = N at *
   generalize hFZ : (if lends = true then freezeUps (only H LL) rows else []) = FZ at *
   have hNk : N.map (·.1) = news := by rw [← r2, List.map_map, ← r1]; rfl
   have hFm : ∀ q ∈ FZ, q.1 ∈ rows ∧ Fz (H q.1) q.2 ∧ lends = true ∧ rowish (H q.1) = true := fun q hq => by
    rw [← hFZ] at hq
    split at hq
    ·rename_i hl
     obtain ⟨h1, h2⟩ := freeze_mem hq
     rw [only_eq (memN_iff.2 (hLr _ h1))] at h2
     rw [hl] at c6
     simp only [Bool.not_true, Bool.false_or] at c6
     have := List.all_eq_true.1 c6 q.1 h1
     rw [only_eq (memN_iff.2 (hLr _ h1))] at this
     exact ⟨h1, h2, hl, this⟩
    ·cases hq
   have hFo : ∀ i ∈ FZ.map (·.1), i ∈ rows := fun i hi => by
    obtain ⟨q, hq, rfl⟩ := List.mem_map.1 hi
    exact (hFm q hq).1
   have hOk : ∀ q ∈ O, q.1 ∈ owns := fun q hq => by rw [← o1]; exact List.mem_map.2 ⟨q, hq, rfl⟩
   have hNm : ∀ q ∈ N, q.1 ∈ news := fun q hq => by rw [← hNk]; exact List.mem_map.2 ⟨q, hq, rfl⟩
   have hnr : ∀ i ∈ news, i ∉ FZ.map (·.1) := fun i hi hf => by
    obtain ⟨q, hq, rfl⟩ := List.mem_map.1 hf
    have h2 := (hFm q hq).2.1.live
    rw [c3 _ hi] at h2; exact h2
   have hno : ∀ i ∈ news, i ∉ owns := fun i hi ho => hnd.2.2 i ho i hi rfl
   -- look-ups
   have hU : ∀ u ∈ ui ++ ur, putH H (O ++ N ++ FZ) u.id = .live u.ob := fun u hu => by
    rcases List.mem_append.1 hu with hu | hu
    ·have hid := hui u hu
     refine putH_get (fun q hq hqe => ?_) ⟨(u.id, .live u.ob), by simp [o2 u hu], rfl⟩
     simp only [List.mem_append] at hq
     rcases hq with (hq | hq) | hq
     ·rw [keys_one (by rw [o1]; exact hnd.1) hq (o2 u hu) hqe]
     ·exact absurd hid (hqe ▸ hno _ (hNm q hq))
     ·exact absurd (hFo _ (List.mem_map.2 ⟨q, hq, rfl⟩)) (hqe ▸ c2 _ hid)
    ·have hid := hur u hu
     have hin : (u.id, Cell.live u.ob) ∈ N := by rw [← r2]; exact List.mem_map.2 ⟨u, hu, rfl⟩
     refine putH_get (fun q hq hqe => ?_) ⟨(u.id, .live u.ob), by simp [hin], rfl⟩
     simp only [List.mem_append] at hq
     rcases hq with (hq | hq) | hq
     ·exact absurd (hOk q hq) (hqe ▸ hno _ hid)
     ·rw [keys_one (by rw [hNk]; exact hnd.2.1) hq hin hqe]
     ·exact absurd (List.mem_map.2 ⟨q, hq, rfl⟩) (hqe ▸ hnr _ hid)
   have hch : ∀ k ∈ owns ++ news ++ FZ.map (·.1), (∃ u ∈ ui ++ ur, u.id = k) ∨ (k ∈ owns ∧ putH H (O ++ N ++ FZ) k = .dead) ∨ (k ∈ rows ∧ k ∉ (ui ++ ur).map (·.id) ∧ Fz (H k) (putH H (O ++ N ++ FZ) k) ∧ lends = true ∧ rowish (H k) = true) := fun k hk => by
    simp only [List.mem_append] at hk
    rcases hk with (hk | hk) | hk
    ·rw [← o1] at hk
     obtain ⟨q, hq, rfl⟩ := List.mem_map.1 hk
     rcases o3 q hq with hd | ⟨u, u1, u2⟩
     ·refine .inr (.inl ⟨hOk q hq, putH_get (fun q' hq' hqe => ?_) ⟨q, by simp [hq], rfl⟩⟩)
      simp only [List.mem_append] at hq'
      rcases hq' with (hq' | hq') | hq'
      ·rw [keys_one (by rw [o1]; exact hnd.1) hq' hq hqe]; exact hd
      ·exact absurd (hOk q hq) (hqe ▸ hno _ (hNm q' hq'))
      ·exact absurd (hFo _ (List.mem_map.2 ⟨q', hq', rfl⟩)) (hqe ▸ c2 _ (hOk q hq))
     ·exact .inl ⟨u, by simp [u1], by rw [u2]⟩
    ·rw [← r1] at hk
     obtain ⟨u, hu, rfl⟩ := List.mem_map.1 hk
     exact .inl ⟨u, by simp [hu], rfl⟩
    ·obtain ⟨q, hq, rfl⟩ := List.mem_map.1 hk
     obtain ⟨h1, h2, h4, h5⟩ := hFm q hq
     have hput : putH H (O ++ N ++ FZ) q.1 = q.2 := by
      refine putH_get (fun q' hq' hqe => ?_) ⟨q, by simp [hq], rfl⟩
      simp only [List.mem_append] at hq'
      rcases hq' with (hq' | hq') | hq'
      ·exact absurd h1 (hqe ▸ c2 _ (hOk q' hq'))
      ·exact absurd hk (hqe ▸ hnr _ (hNm q' hq'))
      ·obtain ⟨_, h2', _⟩ := hFm q' hq'
       rw [hqe] at h2'
       exact h2'.one h2
     refine .inr (.inr ⟨h1, fun hm => ?_, by rw [hput]; exact h2, h4, h5⟩)
     obtain ⟨u, hu, he⟩ := List.mem_map.1 hm
     rcases List.mem_append.1 hu with hu | hu
     ·exact c2 _ (hui u hu) (by rw [he]; exact h1)
     ·exact hnr _ (hur u hu) (by rw [he]; exact hk)
   have hsub : ∀ u ∈ ui ++ ur, u.id ∈ owns ++ news ++ FZ.map (·.1) := fun u hu => by
    rcases List.mem_append.1 hu with hu | hu
    ·simp [hui u hu]
    ·simp [hur u hu]
   have hFsB : ∀ b ∈ owns.flatMap m.ft, Blk m H (owns ++ news ++ FZ.map (·.1)) b := fun b hb => by
    obtain ⟨i, i1, i2, i3⟩ := ft_blk hb g2
    exact ⟨i, by simp [i1], i2, i3⟩
   have hUF : (ui ++ ur).flatMap (·.F) = Fi ++ Fr := by rw [List.flatMap_append, o4, r3]
   have hUO : ∀ u ∈ ui ++ ur, ORep Zf w' u.ob u.hd u.F := fun u hu => by
    rcases List.mem_append.1 hu with hu | hu
    ·exact (o5 u hu).1
    ·exact r4 u hu
   have hUk : ∀ u ∈ ui ++ ur, ∀ b ∈ u.F, ¬ Zf b ∧ (Blk m H (owns ++ news ++ FZ.map (·.1)) b ∨ (w.heap.size ≤ b ∧ b < w'.heap.size)) := fun u hu b hb => by
    have hbF : b ∈ Fi ++ Fr := by rw [← hUF]; exact List.mem_flatMap.2 ⟨u, hu, hb⟩
    obtain ⟨n1, n2, n3⟩ := p.nz b hbF
    refine ⟨fun hz => n1 (hZZ b hz), ?_⟩
    by_cases hlt : b < w.heap.size
    ·exact .inl (hFsB b (n3 hlt))
    ·exact .inr ⟨by omega, n2⟩
   have hndF : ((ui ++ ur).flatMap (·.F)).Nodup := by rw [hUF]; exact p.nd
   have ch : Change B m H w (owns ++ news ++ FZ.map (·.1)) (m.sets Zf (ui ++ ur)) (putH H (O ++ N ++ FZ)) w' := by
    refine ⟨⟨hkp.os, hkp.tape, hkp.output, hkp.size, fun k hk => ?_, fun b hb hnB => hold b hb fun hF => hnB (hFsB b hF), hmZ, fun b hb => ?_, fun k hk => ?_, fun k hk hl b hb => ?_, fun k hk hl => ?_, fun i hi j hj hij hli hlj b hb hb' => ?_⟩, fun k hk hab => ?_⟩
    ·refine ⟨putH_notin fun hm => hk ?_, sets_out fun hm => hk ?_⟩
     ·rw [List.map_append, List.map_append, o1, hNk] at hm; exact hm
     ·obtain ⟨u, hu, rfl⟩ := List.mem_map.1 hm
      exact hsub u hu
    ·have hb : Zf b := hb
     cases hl : lends with
     | false => rw [hnz hl] at hb; exact .inl hb
     | true =>
      rw [hlz hl] at hb
      by_cases hlt : b < w.heap.size
      ·rcases p.zi b hb hlt with (hz | ⟨i, i1, i2, i3⟩) | hz
       ·exact .inl hz
       ·refine .inr (.inl ⟨⟨i, ?_, i2, i3⟩, hlt⟩)
        rw [hl] at c6
        simp only [Bool.not_true, Bool.false_or] at c6
        have hrw := List.all_eq_true.1 c6 i i1
        rw [only_eq (memN_iff.2 (hLr i i1))] at hrw
        obtain ⟨c', hc'⟩ := rowish_live hrw i2
        have := freeze_of (H := only H LL) i1 (by rw [only_eq (memN_iff.2 (hLr i i1))]; exact hc')
        have hin : (i, c') ∈ FZ := by rw [← hFZ, if_pos hl]; exact this
        simp only [List.mem_append]
        exact .inr (List.mem_map.2 ⟨_, hin, rfl⟩)
       ·exact .inr (.inl ⟨hFsB b hz, hlt⟩)
      ·exact .inr (.inr ⟨by omega, p.zl b hb⟩)
    ·rcases hch k hk with ⟨u, hu, rfl⟩ | ⟨_, hd⟩ | ⟨h1, h2, h3, h5, h6⟩
     ·rw [hU u hu]
      obtain ⟨e1, e2⟩ := sets_in (m := m) (Z1 := Zf) hids hu
      simp only [CRep]
      rw [e1, e2]
      exact hUO u hu
     ·rw [hd]; trivial
     ·have hL := h3.live
      have hfz : ∀ b ∈ m.ft k, b < w.heap.size ∧ b ∉ owns.flatMap m.ft := fun b hb => by
       refine ⟨(hh.nz k hL b hb).2.1, fun hF => (hFs b hF).1 (.inr ⟨k, h1, hL, hb⟩)⟩
      refine h3.rep hh h6 (fun b hb => hold b (hh.zl b hb) fun hF => (hFs b hF).1 (.inl hb)) hmZ (fun b hb => hold b (hfz b hb).1 (hfz b hb).2) (fun b hb => ?_) (sets_out (m := m) (Z1 := Zf) h2).1
      show Zf b
      rw [hlz h5]
      exact p.zs b (.inr ⟨k, h1, hL, hb⟩)
    ·rcases hch k hk with ⟨u, hu, rfl⟩ | ⟨_, hd⟩ | ⟨h1, h2, h3, h5, h6⟩
     ·rw [(sets_in (m := m) (Z1 := Zf) hids hu).2] at hb
      exact hUk u hu b hb
     ·rw [hd] at hl; exact hl.elim
     ·exact absurd hl h3.dead
    ·rcases hch k hk with ⟨u, hu, rfl⟩ | ⟨_, hd⟩ | ⟨h1, h2, h3, h5, h6⟩
     ·rw [(sets_in (m := m) (Z1 := Zf) hids hu).2]
      exact flatMap_nodup hndF hu
     ·rw [hd] at hl; exact hl.elim
     ·exact absurd hl h3.dead
    ·rcases hch i hi with ⟨u, hu, rfl⟩ | ⟨_, hd⟩ | ⟨h1, h2, h3, h5, h6⟩
     ·rcases hch j hj with ⟨u', hu', rfl⟩ | ⟨_, hd⟩ | ⟨h1, h2, h3, h5, h6⟩
      ·rw [(sets_in (m := m) (Z1 := Zf) hids hu).2] at hb
       rw [(sets_in (m := m) (Z1 := Zf) hids hu').2] at hb'
       exact flatMap_disj hndF hu hu' (fun e => hij (by rw [e])) hb hb'
      ·rw [hd] at hlj; exact hlj.elim
      ·exact absurd hlj h3.dead
     ·rw [hd] at hli; exact hli.elim
     ·exact absurd hli h3.dead
    ·rcases hch k hk with ⟨u, hu, rfl⟩ | ⟨_, hd⟩ | ⟨h1, h2, h3, h5, h6⟩
     ·have hu' := hu
      rcases List.mem_append.1 hu with hu | hu
      ·obtain ⟨q1, q2, g, ls, ls', q3, q4⟩ := o5 u hu
       have := hU u hu'
       rw [q4] at this
       exact EvoAt.cells_ q3 this (Nat.lt_succ_self _) (by rw [(sets_in (m := m) (Z1 := Zf) hids hu').1]; exact q2)
      ·exact absurd (c3 _ (hur u hu)) hab
     ·exact EvoAt.dead hd
     ·exact h3.evo rfl (sets_out (m := m) (Z1 := Zf) h2).1
   refine ⟨_, hh.change ch, hh.evo ch, ?_⟩
   rw [p.v]
   refine avOf_ok (r5 _ _ rfl fun u hu => ⟨(sets_in (m := m) (Z1 := Zf) hids (u := u) (by simp [hu])).1, hU u (by simp [hu])⟩)
  ·exact hQ.elim
 ·exact hQ.elim
end
end Go.Proofs.Ytadhpgecilhgnaa.A

-- YtadhpgecilhgnaaCm
set_option linter.unusedVariables false
set_option linter.unusedSimpArgs false
namespace Go.Proofs.Ytadhpgecilhgnaa.A
open Go
section
variable {P : Program} {B : Base} {m m' m0 m1 : Md} {H H' H1 : Hp} {w w' : World} {o : Oper} {a : Act} {E : Env} {tab : Nat → Option TI} {T : Nat → Option FunE} {L : List Nat} {Z1 Zf : Nat → Prop}

theorem wCallM_ok {F : FunE} {f : FuncId} (hF : FunOk P f F) (hh : HOk B m H w) {as_ : List AV} {vs : List Value} (hv : All2 (AVRep m w H) as_ vs) (ex : (execOp a.eval o).run P w = .ok (.enter f vs.toArray) w) : WayOk P B m H w o a (wCallM F o.dst as_) := by
 unfold wCallM
 split
 ·rename_i id g k key as'
  generalize hdd : 300000 + o.dst.getD 99999 = d
  match vs, hv with
  | c :: vs', hv =>
   intro Q hQ
   simp only at hQ
   generalize hcore : wCallF F o.dst (.val false [.ptr d 0] :: as') = core at hQ
   split at hQ
   ·rename_i g' k' e mm hx
    have hx := live_of_only hx
    split at hQ
    ·rename_i key' hg hk
     obtain rfl := Nat.eq_of_beq_eq_true hg
     obtain ⟨he, hk⟩ := castTo_eq hk
     subst he; subst hk
     split at hQ
     ·rename_i hc
      simp only [Bool.and_eq_true, Bool.not_eq_true'] at hc
      obtain ⟨c1, c2⟩ := hc
      have hda : H d = .absent := absent_of c1 (by simp)
      have hidn := memN_false.1 c2
      simp only [List.mem_cons, not_or] at hidn
      obtain ⟨hne, hidn⟩ := hidn
      have hQ := Tst.can_bind hQ
      have hL : (H id).Live := by rw [hx]; trivial
      obtain ⟨bm, ents, clock, bx, el, cc, Fb, y, m1', m2', e1, en, e2, F1, F2, p1, p2, p3, p4, p5, p6, p7, p8, p9, p10, p11, p12, p13, p14, p15, p16, p17⟩ := mel_ok hh hx hv.1.one
      have hnd := hh.nd id hL
      rw [p2] at hnd
      have hnd2 := List.nodup_cons.1 hnd
      have hperm : (F1 ++ ((bx :: Fb) ++ F2)).Perm ((F1 ++ F2) ++ (bx :: Fb)) := by
       rw [List.append_assoc]
       exact List.Perm.append_left _ List.perm_append_comm
      have hnd3 := hperm.nodup_iff.1 hnd2.2
      rw [List.nodup_append] at hnd3
      have mem1 : ∀ z, z ∈ bm :: (F1 ++ F2) ∨ z ∈ bx :: Fb → z ∈ m.ft id := fun z hz => by
       rw [p2]
       simp only [List.mem_cons, List.mem_append] at hz ⊢
       rcases hz with (h | h | h) | h | h <;> simp [h]
      -- the box is taken out
      have ch1 := Change.two (m := m) hh (id := id) (d := d) hne hL (ob := .mapb g k (.ptr e) mm (some (key, some (.pointer (some ⟨bx, 0, none⟩))))) (c := .live (.cells 0 (flat e y))) (G1 := bm :: (F1 ++ F2)) (G2 := bx :: Fb) (hdr := .pointer (some ⟨bx, 0, none⟩)) (fun z hz => .inl (mem1 z hz)) ?_ hnd3.2.1 (fun _ z hz hz2 => ?_)
       ⟨bm, ents, clock, F1 ++ F2, p1, rfl, p3, p4, ?_⟩ ?_ (EvoAt.mapbE hx (upd_same _ _ _) (upd_other _ _ hne) fun _ _ => rfl) (fun h => absurd hda h)
      rotate_left
      ·rw [List.nodup_cons]
       exact ⟨fun h => hnd2.1 (hperm.symm.subset (List.mem_append_left _ h)), hnd3.1⟩
      ·rcases List.mem_cons.1 hz with rfl | hz
       ·exact hnd2.1 (hperm.symm.subset (List.mem_append_right _ hz2))
       ·exact hnd3.2.2 z hz z hz2 rfl
      ·rw [p9, p10]
       exact RepMH.of (q := fun x => eqV k x key) (ov := some (.pointer (some ⟨bx, 0, none⟩))) (p := (key, some y)) p14 p12 (fun u hu => by cases hu; exact p11) p16 p13 p15
      ·simp only [CRep]
       rw [upd_same, upd_same]
       exact ⟨bx, el, cc, Fb, rfl, rfl, p6, flat_ok p7⟩
      have hh1 := hh.change ch1
      have ev1 := hh.evo ch1
      generalize hm1 : ({ Z := m.Z, hd := upd m.hd d (.pointer (some ⟨bx, 0, none⟩)), ft := upd (upd m.ft id (bm :: (F1 ++ F2))) d (bx :: Fb) } : Md) = M1 at hh1 ev1
      generalize hH1 : upd (upd H d (.live (.cells 0 (flat e y)))) id (.live (.mapb g k (.ptr e) mm (some (key, some (.pointer (some ⟨bx, 0, none⟩)))))) = H1 at hh1 ev1
      have H1d : H1 d = .live (.cells 0 (flat e y)) := by rw [← hH1, upd_other _ _ (Ne.symm hne), upd_same]
      have H1id : H1 id = .live (.mapb g k (.ptr e) mm (some (key, some (.pointer (some ⟨bx, 0, none⟩))))) := by rw [← hH1, upd_same]
      have M1d : M1.hd d = .pointer (some ⟨bx, 0, none⟩) := by rw [← hm1]; exact upd_same _ _ _
      have M1id : M1.hd id = m.hd id := by rw [← hm1]; exact upd_other _ _ hne
      have call := wCallF_ok (a := a) (o := o) hF hh1 (as_ := .val false [.ptr d 0] :: as') (vs := c :: vs') ⟨AVRep.mk1 ⟨by rw [H1d]; simp, fun _ _ _ => ⟨bx, M1d, p5⟩⟩, hv.2.mono fun _ _ h => h.evo ev1⟩ ex
      rw [hcore] at call
      have heq : only (upd (only H ([] ++ id :: d :: (core.rd ++ core.wr))) d (.live (.cells 0 (flat e (boxOf k e key mm))))) (core.rd ++ core.wr) = only H1 (core.rd ++ core.wr) := by
       funext n
       unfold only
       cases hn : memN n (core.rd ++ core.wr) with
       | false => rfl
       | true =>
        simp only
        have hnm := memN_iff.1 hn
        have hni : n ≠ id := fun e => hidn (e ▸ hnm)
        by_cases hnd' : n = d
        ·subst hnd'
         rw [upd_same, H1d, p8]
        ·rw [upd_other _ _ hnd', ← hH1, upd_other _ _ hni, upd_other _ _ hnd']
         have : memN n ([] ++ id :: d :: (core.rd ++ core.wr)) = true := memN_iff.2 (by
          rw [List.nil_append]
          exact List.mem_cons_of_mem _ (List.mem_cons_of_mem _ hnm))
         rw [this]
      rw [heq] at hQ
      obtain ⟨v, ups, hQ2, hop⟩ := call _ hQ
      simp only at hQ2
      split at hQ2
      ·rename_i gg ls hls hall
       split at hQ2
       ·rename_i y' hy'
        refine ⟨_, _, hQ2, ?_⟩
        unfold OpOk at hop ⊢
        rw [ex] at hop ⊢
        refine hop.mono fun e' w' ⟨v', he', hA⟩ => ⟨v', he', ?_⟩
        obtain ⟨m2, hh2, ev2, hv2⟩ := hA
        have hkeys := memN_all hall
        have hidk : id ∉ ups.map (·.1) := fun h => hidn (List.mem_append_right _ (hkeys id h))
        have hdk : d ∈ ups.map (·.1) := by
         apply Classical.byContradiction
         intro hn
         rw [putH_notin hn] at hls
         cases hls
        generalize hH2 : putH H1 ups = H2 at hh2 ev2 hv2
        have H2id : H2 id = .live (.mapb g k (.ptr e) mm (some (key, some (.pointer (some ⟨bx, 0, none⟩))))) := by rw [← hH2, putH_notin hidk, H1id]
        have H2d : H2 d = .live (.cells gg ls) := by rw [← hH2, putH_indep (H' := fun _ => .absent) hdk, hls]
        have L2 : (H2 id).Live := by rw [H2id]; trivial
        have Ld : (H2 d).Live := by rw [H2d]; trivial
        obtain ⟨q1, _⟩ := ev2.mapb id (by rw [H1id]; simp) _ _ _ _ _ H2id
        obtain ⟨q2, _⟩ := ev2.cells d (by rw [H1d]; simp) _ _ H2d
        have cr := hh2.cr id
        rw [H2id] at cr
        obtain ⟨b, ents2, clock2, F', r1, r2, r3, r4, r5⟩ := cr
        have crd := hh2.cr d
        rw [H2d] at crd
        obtain ⟨bx2, el2, cc2, Fb2, s1, s2, s3, s4⟩ := crd
        rw [q2, M1d] at s1; cases s1
        have hyr := asmAllO hy' s4
        rw [p9] at r5
        obtain ⟨f1, en', f2, G1, G2, t1, t2, t3, t4, t5, t6⟩ := RepMH.to (q := fun x => eqV k x key) (p := (key, some y)) (m := m1') p14 p13 r5
        have hbb : b = bm := by rw [q1, M1id, p1] at r1; cases r1; rfl
        subst hbb
        have nid := hh2.nd id L2
        rw [r2, t2, List.nodup_cons] at nid
        have ndd := hh2.nd d Ld
        have dis : ∀ z ∈ m2.ft id, z ∉ m2.ft d := fun z hz => hh2.sp id d hne L2 Ld z hz
        rw [r2, t2, s2] at dis
        have ch3 := Change.two (m := m2) hh2 (id := id) (d := d) hne L2 (ob := .mapb g k (.ptr e) (mapPut k (.ptr e) key (some y') mm) none) (c := .dead) (G1 := b :: (G1 ++ ((bx :: Fb2) ++ G2))) (G2 := []) (hdr := m2.hd d) (fun z hz => ?_) ?_ (by simp) (fun h => h.elim)
         ⟨b, ents2, clock2, G1 ++ ((bx :: Fb2) ++ G2), r1, rfl, r3, r4, ?_⟩ trivial (EvoAt.mapbE H2id (upd_same _ _ _) (upd_other _ _ hne) fun _ _ => rfl) (fun _ => EvoAt.dead (by rw [upd_other _ _ (Ne.symm hne), upd_same]))
        rotate_left
        ·rcases hz with hz | hz
         ·rw [r2, t2, s2]
          simp only [List.mem_cons, List.mem_append] at hz ⊢
          rcases hz with h | h | (h | h) | h
          ·exact .inl (.inl h)
          ·exact .inl (.inr (.inl h))
          ·exact .inr ⟨Ld, .inl h⟩
          ·exact .inr ⟨Ld, .inr h⟩
          ·exact .inl (.inr (.inr h))
         ·cases hz
        ·have hp : (G1 ++ ((bx :: Fb2) ++ G2)).Perm ((G1 ++ G2) ++ (bx :: Fb2)) := by
          rw [List.append_assoc]
          exact List.Perm.append_left _ List.perm_append_comm
         rw [List.nodup_cons]
         refine ⟨fun h => ?_, hp.nodup_iff.2 ?_⟩
         ·rcases List.mem_append.1 (hp.subset h) with h | h
          ·exact nid.1 h
          ·exact dis b (by simp) h
         ·rw [List.nodup_append]
          rw [s2] at ndd
          exact ⟨nid.2, ndd, fun z hz z2 hz2 e => dis z (List.mem_cons_of_mem _ hz) (e ▸ hz2)⟩
        ·show RepMF _ _ _ _ _
         rw [p17, t1]
         exact RepMF.append t3 ⟨en', f2, bx :: Fb2, G2, rfl, rfl, t4, ⟨[en'.val], rfl, by
          rw [t5 _ rfl]
          exact ⟨bx, el2, cc2, Fb2, rfl, rfl, s3, hyr⟩⟩, t6⟩
        have hfin : putH H (ups ++ [(d, .dead), (id, .live (.mapb g k (.ptr e) (mapPut k (.ptr e) key (some y') mm) none))]) = upd (upd H2 d .dead) id (.live (.mapb g k (.ptr e) (mapPut k (.ptr e) key (some y') mm) none)) := by
         rw [putH_append]
         simp only [putH]
         funext n
         by_cases h1 : n = id
         ·subst h1; rw [upd_same, upd_same]
         ·rw [upd_other _ _ h1, upd_other _ _ h1]
          by_cases h2 : n = d
          ·subst h2; rw [upd_same, upd_same]
          ·rw [upd_other _ _ h2, upd_other _ _ h2, ← hH2]
           exact putH_agree (by rw [← hH1, upd_other _ _ h1, upd_other _ _ h2])
        unfold After
        rw [hfin]
        exact ⟨_, hh2.change ch3, (ev1.trans ev2).trans (hh2.evo ch3), hv2.evo (hh2.evo ch3)⟩
       ·exact hQ2.elim
      ·exact hQ2.elim
     ·exact hQ.elim
    ·exact hQ.elim
   ·exact hQ.elim
 ·exact wCallF_ok hF hh hv ex
end
end Go.Proofs.Ytadhpgecilhgnaa.A

-- YtadhpgecilhgnaaFn4
set_option linter.unusedVariables false
set_option linter.unusedSimpArgs false
namespace Go.Proofs.Ytadhpgecilhgnaa.A
open Go
section
variable {P : Program} {B : Base} {m m' m0 : Md} {H H' : Hp} {w w' : World} {o : Oper} {a : Act} {E : Env} {tab : Nat → Option TI} {N : Nat}

structure PInv (B : Base) (Z : Nat → Prop) (w : World) (vals : Nat → Value) (t0 : Nat) (m : Md) (es : List (Nat × AV)) (hs : List (Nat × Cell)) (F : List Nat) : Prop where
 h : HOk B m (ofL .absent hs) w
 z : m.Z = Z
 t : ∀ k, AVRep m w (ofL .absent hs) (ofL .junk es k) (vals k)
 own : ∀ k, (ofL .absent hs k).Live → ∀ b ∈ m.ft k, b ∈ F
 ks : ∀ k ∈ hs.map (·.1), ∃ t, t0 ≤ t ∧ k = headId t
theorem pinv_put {m : Md} {H : Hp} {es : List (Nat × AV)} {vals : Nat → Value} (h : ∀ t, AVRep m w H (ofL .junk es t) (vals t)) {t0 : Nat} {v : AV} (hv : AVRep m w H v (vals t0)) (t : Nat) : AVRep m w H (ofL .junk ((t0, v) :: es) t) (vals t) := by
 rw [ofL_cons]
 by_cases ht : t = t0
 ·subst ht; rw [upd_same]; exact hv
 ·rw [upd_other _ _ ht]; exact h t
theorem par_plain {t : Nat} {τ : Ty} {x : τ.den} (h : τ.vecP = false) (hp : τ.pure = true) : parAV t false τ x = (.val (!τ.one) (flat τ x), []) := by
 cases τ <;> first | rfl | cases hp
theorem pars_ok {Z : Nat → Prop} (h0 : ∀ m : Md, m.Z = Z → HOk B m (fun _ => .absent) w) {vals : Nat → Value} : ∀ {ps : List (Bool × Ty)} {t : Nat} {x : (ps.foldr (fun p t => Ty.pair p.2 t) .unit).den} {vs : List Value} {F : List Nat},
 ArgsRep Z w ps x vs F → F.Nodup → (∀ b ∈ F, ¬ Z b ∧ b < w.heap.size ∧ (b < B.w.heap.size → b ∈ B.F)) → (ps.all fun p => p.1 || p.2.pure || p.2.vecP) = true → (∀ (i : Nat) (v : Value), vs[i]? = some v → vals (t + i) = v) →
 ∃ m, PInv B Z w vals t m (pars t ps x).1 (pars t ps x).2 F
 | [], t, x, vs, F, _, _, _, _, _ => ⟨{ Z := Z, hd := fun _ => undef, ft := fun _ => [] }, h0 _ rfl, rfl, fun _ => trivial, fun _ h => h.elim, by simp [pars]⟩
 | (io, τ) :: ps, t, x, vs, F, ⟨v, vs', F1, F2, h1, h2, h3, h4⟩, hn, hF, hk, hv => by
  subst h1; subst h2
  rw [List.all_cons, Bool.and_eq_true] at hk
  rw [List.nodup_append] at hn
  obtain ⟨m, K⟩ := pars_ok h0 (t := t + 1) h4 hn.2.1 (fun b hb => hF b (by simp [hb])) hk.2 (fun i v hi => by have := hv (i + 1) v (by simpa using hi); rwa [show t + (i + 1) = t + 1 + i by omega] at this)
  have hval : vals t = v := hv 0 v (by simp)
  have hfresh : ofL .absent (pars (t + 1) ps x.2).2 (headId t) = .absent := ofL_absent _ fun hm => by
   obtain ⟨t', h1, h2⟩ := K.ks _ hm
   have := headId_inj h2
   omega
  -- an object under this place's name
  have obj : ∀ {ob : Obj} {hdr : Value} {av : AV}, ORep Z w ob hdr F1 → parAV t io τ x.1 = (av, [(headId t, .live ob)]) → (∀ (m1 : Md) (H1 : Hp), m1.hd (headId t) = hdr → H1 (headId t) = .live ob → AVRep m1 w H1 av (vals t)) → ∃ m, PInv B Z w vals t m (pars t ((io, τ) :: ps) x).1 (pars t ((io, τ) :: ps) x).2 (F1 ++ F2) := by
   intro ob hdr av hr hp hav
   obtain ⟨q1, q2⟩ := K.h.add hfresh (by rw [K.z]; exact hr) hn.1 (fun b hb => by rw [K.z]; exact hF b (by simp [hb])) (fun j hj b hb hb' => hn.2.2 b hb' b (K.own j hj b hb) rfl)
   refine ⟨m.set (headId t) hdr F1, ?_⟩
   simp only [pars, hp, List.singleton_append]
   refine ⟨q1, K.z, pinv_put (fun k => (K.t k).evo q2) (hav _ _ (by simp only [Md.set]; rw [upd_same]) (upd_same _ _ _)), fun k hk b hb => ?_, fun k hk => ?_⟩
   ·by_cases hk0 : k = headId t
    ·subst hk0
     simp only [Md.set] at hb
     rw [upd_same] at hb
     simp [hb]
    ·rw [ofL_cons, upd_other _ _ hk0] at hk
     simp only [Md.set] at hb
     rw [upd_other _ _ hk0] at hb
     simp [K.own k hk b hb]
   ·simp only [List.map_cons, List.mem_cons] at hk
    rcases hk with rfl | hk
    ·exact ⟨t, Nat.le_refl _, rfl⟩
    ·obtain ⟨t', h1, h2⟩ := K.ks k hk
     exact ⟨t', by omega, h2⟩
  cases io with
  | true =>
   obtain ⟨b, el, cs, F', e1, e2, e3, e4⟩ := h3
   refine obj (ob := .cells 0 (flat τ x.1)) (hdr := .pointer (some ⟨b, 0, none⟩)) ⟨b, el, cs, F', rfl, e2, e3, flat_ok e4⟩ rfl fun m1 H1 h1 h2 => one_val ⟨by rw [h2]; simp, fun _ _ _ => ⟨b, h1, by rw [hval, e1]⟩⟩
  | false =>
   obtain ⟨cs, e1, e2⟩ := h3
   have hk1 : (τ.pure || τ.vecP) = true := by simpa using hk.1
   by_cases hve : τ.vecP = true
   ·cases τ with
    | vec e =>
     have e1 : cs = [v] := e1
     subst e1
     exact obj (ob := .row e x.1) (hdr := v) e2 rfl fun m1 H1 h1 h2 => one_val ⟨by rw [h2]; simp, fun _ _ _ => by rw [hval, h1], fun _ _ _ => by rw [hval, h1]⟩
    | _ => cases hve
   ·have hve : τ.vecP = false := by simpa using hve
    rw [hve, Bool.or_false] at hk1
    have hF1 := e2.pure hk1
    subst hF1
    refine ⟨m, ?_⟩
    simp only [pars, par_plain hve hk1, List.nil_append]
    refine ⟨K.h, K.z, pinv_put K.t ⟨cs, by rw [hval]; exact e1, flat_all2 (by rw [K.z]; exact e2)⟩, K.own, fun k hk => ?_⟩
    obtain ⟨t', h1, h2⟩ := K.ks k hk
    exact ⟨t', by omega, h2⟩

def resRun (tmps : Array Value) : ResultVar → Sem Value
 | .tmp t => pure (tmps.getD t undef)
 | .cell a t => do loadVar t (← asAddr (tmps.getD a undef))
theorem resVal_ok (hT : TabOk P tab) (s : St B m E H a w) {rv : ResultVar} {p : Bool × List LV} (h : resVal tab H E rv = some p) : ∃ u, (resRun a.tmps rv).run P w = .ok u w ∧ PRep m w H p u := by
 cases rv with
 | tmp t =>
  simp only [resVal] at h
  split at h
  ·rename_i g ls he
   cases h
   have := s.t t
   rw [he] at this
   exact ⟨_, by simp [resRun], this⟩
  ·cases h
 | cell ad t =>
  simp only [resVal] at h
  split at h
  ·rename_i i id hi he
   split at h
   ·rename_i g ls hx
    split at h
    ·rename_i hl
     cases h
     have hl := Nat.eq_of_beq_eq_true hl
     have ht := s.t ad
     rw [he] at ht
     obtain ⟨b, q1, q2⟩ := ht.one.2 _ _ hx
     have hc := s.h.cr id
     rw [hx] at hc
     obtain ⟨b', el, cs, F', k1, k2, k3, k4⟩ := hc
     rw [k1] at q1; cases q1
     have hcell : ∀ (j : Nat) (u : Value), cs[j]? = some u → w.cell? ⟨b, 0 + j, none⟩ = some u := fun j u hu => by
      simp only [World.cell?, k3]
      simpa using hu
     have hls := outLeaves_ok (m := m) (w := w) hx k1 0 k4 (fun j l hj => by simpa using hj) hcell
     have hlen : cs.length = i.ty.cells := by rw [k4.len (sz := 1) ol1_len, Nat.mul_one, hl]
     obtain ⟨v, r1, r2⟩ := load_ok (P := P) (w := w) hT hi (b := b) (p := 0) hlen hcell
     refine ⟨v, ?_, cs, r2, hls⟩
     simp only [resRun, q2, asAddr, Sem.run_bind, Sem.run_pure, Result.andThen_ok]
     simpa [Instr.loadAt, Instr.sureAddr] using r1
    ·cases h
   ·cases h
  ·cases h
theorem resVals_ok (hT : TabOk P tab) (s : St B m E H a w) : ∀ {rvs : List ResultVar} {rs : List (Bool × List LV)}, resVals tab H E rvs = some rs → ∃ us, (rvs.mapM (resRun a.tmps)).run P w = .ok us w ∧ All2 (PRep m w H) rs us
 | [], _, h => by cases h; exact ⟨[], by simp, trivial⟩
 | rv :: rvs, rs, h => by
  simp only [resVals] at h
  split at h
  ·rename_i p ps h1 h2
   cases h
   obtain ⟨u, u1, u2⟩ := resVal_ok hT s h1
   obtain ⟨us, v1, v2⟩ := resVals_ok hT s h2
   refine ⟨u :: us, ?_, u2, v2⟩
   simp [List.mapM_cons, u1, v1]
  ·cases h
theorem results_run {fn : Func} {us : List Value} (h : (fn.results.toList.mapM (resRun a.tmps)).run P w = .ok us w) : (results fn a.tmps).run P w = .ok (tupOf us) w := by
 have e : results fn a.tmps = (do let vs ← fn.results.mapM (resRun a.tmps); pure (if h : vs.size = 1 then vs[0] else .tuple vs)) := by
  unfold results
  congr 1
 rw [e, Array.mapM_eq_mapM_toList]
 simp only [Sem.run_bind, map_eq_pure_bind, h, Result.andThen_ok, Sem.run_pure]
 congr 1
 match us with
 | [] => rfl
 | [u] => rfl
 | u :: v :: us => simp [tupOf]
theorem resOne_ok {Zf : Nat → Prop} (hh : HOk B m H w) (hz : ∀ b, m.Z b → Zf b) {τ : Ty} {g : Bool} {ls : List LV} {x : τ.den} {v : Value} (h : resOne H τ g ls = some x) (hn : nnB H [τ] [(g, ls)] = true) (hv : PRep m w H (g, ls) v) (hr : ∀ id ∈ argRd false τ (.val g ls), (H id).Live → ∀ b ∈ m.ft id, Zf b) :
 (∃ cs, IsV (!τ.one) cs v ∧ Rep Zf w τ x cs ((ownArg false τ (.val g ls)).flatMap m.ft)) ∧ ∀ id ∈ ownArg false τ (.val g ls), (H id).Live := by
 unfold resOne at h
 split at h
 ·rename_i e id
  split at h
  ·rename_i e' xs hx
   unfold slAs at h
   split at h
   ·rename_i hp
    obtain ⟨he, hxs⟩ := castTo_eq h
    cases he
    have hxs : xs = x := hxs
    subst hxs
    have hne : xs ≠ [] := by
     intro e
     subst e
     simp [nnB, nnCell, hx] at hn
    have hL : (H id).Live := by rw [hx]; trivial
    have hv1 := AVRep.one (v := v) (m := m) (w := w) (H := H) (l := .row id) hv
    have hcr := hh.cr id
    rw [hx] at hcr
    refine ⟨⟨[v], rfl, ?_⟩, fun i hi => by simp [ownArg] at hi⟩
    have e1 := hv1.2.1 _ _ hx
    have r := Rep.vec_sl (Z' := Zf) hp hcr hz fun b hb => hr id (by simp [argRd, ownArg, slRds, slRd]) hL b hb
    rw [← e1] at r
    exact ⟨fun h => absurd h hne, r⟩
   ·cases h
  ·cases h
 ·exact ownIn_ok (Sub.refl H) hh hz h hv hr
theorem nnB_head {τ : Ty} {outs : List Ty} {p : Bool × List LV} {rs : List (Bool × List LV)} (h : nnB H (τ :: outs) (p :: rs) = true) : nnB H [τ] [p] = true ∧ nnB H outs rs = true := by
 unfold nnB at h
 split at h
 ·rename_i h1 h2
  cases h1; cases h2
  rw [Bool.and_eq_true] at h
  exact ⟨by simp [nnB, h.2], h.1⟩
 ·rename_i hne h1 h2
  cases h1; cases h2
  refine ⟨?_, h⟩
  unfold nnB
  split
  ·rename_i h3 h4
   cases h3; cases h4
   exact (hne _ _ _ rfl rfl).elim
  ·rename_i h3 h4
   cases h3; cases h4
   rfl
  ·rfl
 ·rename_i k1 k2
  first | exact (k1 _ _ _ _ rfl rfl).elim | exact (k2 _ _ _ _ rfl rfl).elim | exact (k1 _ _ _ _ rfl).elim | exact (k2 _ _ _ _ rfl).elim
theorem resIn_ok {Zf : Nat → Prop} (hh : HOk B m H w) (hz : ∀ b, m.Z b → Zf b) : ∀ {outs : List Ty} {rs : List (Bool × List LV)} {us : List Value} {x : (outs.foldr Ty.pair .unit).den}, resIn H outs rs = some x → nnB H outs rs = true → All2 (PRep m w H) rs us →
 (∀ id ∈ resRds outs rs, (H id).Live → ∀ b ∈ m.ft id, Zf b) → ResL Zf w outs x us ((resOwns outs rs).flatMap m.ft) ∧ ∀ id ∈ resOwns outs rs, (H id).Live
 | [], [], us, x, _, _, hv, _ => by
  have : us = [] := by cases us with | nil => rfl | cons _ _ => exact hv.elim
  subst this
  exact ⟨⟨rfl, rfl⟩, by simp [resOwns]⟩
 | [], _ :: _, _, _, h, _, _, _ => by cases h
 | _ :: _, [], _, _, h, _, _, _ => by cases h
 | τ :: outs, p :: rs, [], _, _, _, hv, _ => hv.elim
 | τ :: outs, p :: rs, u :: us, x, h, hn, hv, hr => by
  obtain ⟨n1, n2⟩ := nnB_head hn
  simp only [resIn] at h
  split at h
  ·rename_i y ys hy hys
   cases h
   obtain ⟨g1, g2⟩ := resIn_ok hh hz hys n2 hv.2 fun id hid => hr id (by simp [resRds, hid])
   obtain ⟨k1, k2⟩ := resOne_ok hh hz hy n1 hv.1 fun id hid => hr id (by simp [resRds, hid])
   refine ⟨⟨u, us, _, _, rfl, ?_, k1, g1⟩, fun id hid => ?_⟩
   ·simp [resOwns, List.flatMap_append]
   ·simp only [resOwns, List.mem_append] at hid
    exact hid.elim (k2 id) (g2 id)
  ·cases h
theorem splitRes_join : ∀ {outs more : List Ty} {x : (outs.foldr Ty.pair .unit).den} {y : (more.foldr Ty.pair .unit).den}, splitRes outs more (joinRes outs more x y) = (x, y)
 | [], _, _, _ => rfl
 | τ :: outs, more, x, y => by
  simp only [joinRes, splitRes, splitRes_join]
  rfl

theorem io_end {Zf : Nat → Prop} (s : St B m E H a w) (hz : ∀ b, m.Z b → Zf b) {fv : Nat → Value} : ∀ {ps : List (Bool × Ty)} {t : Nat} {ids : List Nat} {x : (((ps.filter (·.1)).map (·.2)).foldr Ty.pair .unit).den} {vs : List Value},
 ioIdsOf E (iosOf t ps) = some ids → ioOut H ((ps.filter (·.1)).map (·.2)) ids = some x → (∀ i ∈ iosOf t ps, a.tmps.getD i undef = fv i) → (∀ i, i < ps.length → vs[i]? = some (fv (t + i))) →
 IoRep Zf w ps x vs (ids.flatMap m.ft) ∧ ∀ id ∈ ids, (H id).Live
 | [], t, ids, x, vs, h1, h2, _, _ => by
  cases h1
  exact ⟨rfl, by simp⟩
 | (false, τ) :: ps, t, ids, x, vs, h1, h2, h3, h4 => by
  refine io_end (ps := ps) (t := t + 1) s hz h1 h2 h3 fun i hi => ?_
  have := h4 (i + 1) (by simp; omega)
  rw [List.getElem?_tail, this]
  congr 2; omega
 | (true, τ) :: ps, t, ids, x, vs, h1, h2, h3, h4 => by
  simp only [iosOf, ioIdsOf] at h1
  split at h1
  ·rename_i id ids' he hi
   cases h1
   have h2 : ioOut H (τ :: ((ps.filter (·.1)).map (·.2))) (id :: ids') = some x := h2
   simp only [ioOut] at h2
   split at h2
   ·rename_i g ls y hx hy
    split at h2
    ·rename_i z hz'
     cases h2
     obtain ⟨g1, g2⟩ := io_end (ps := ps) (t := t + 1) (vs := vs.tail) s hz hi hy (fun i hi => h3 i (by simp [iosOf, hi])) (fun i hi => by
      have := h4 (i + 1) (by simp; omega)
      rw [List.getElem?_tail, this]
      congr 2; omega)
     have ht := s.t t
     rw [he, h3 t (by simp [iosOf])] at ht
     obtain ⟨b, e1, e2⟩ := ht.one.2 _ _ hx
     have hL : (H id).Live := by rw [hx]; trivial
     have hc := s.h.cr id
     rw [hx] at hc
     obtain ⟨b', el, cs, F', k1, k2, k3, k4⟩ := hc
     rw [k1] at e1; cases e1
     have hv0 := h4 0 (by simp)
     refine ⟨⟨b, el, cs, F', _, ?_, ?_, k3, Rep.frame (fun _ _ => rfl) hz (fun _ _ => rfl) (asmAllO hz' k4), g1⟩, fun i hi => ?_⟩
     ·rw [List.head?_eq_getElem?, hv0, Nat.add_zero, e2]
     ·rw [List.flatMap_cons, k2]
     ·rcases List.mem_cons.1 hi with rfl | hi
      ·exact hL
      ·exact g2 i hi
    ·cases h2
   ·cases h2
  ·cases h1

theorem fin_ok (hT : TabOk P tab) {fn : Func} {F : FunE} {Z : Nat → Prop} {w0 : World} {Fs : List Nat} {vs : List Value} (hB : B = { w := w0, F := Fs, Z := Z, fx := iosOf 0 F.ins, fv := fun i => vs.getD i undef }) (hlen : vs.length = F.ins.length) {r : ((F.outs ++ (F.ins.filter (·.1)).map (·.2)).foldr Ty.pair .unit).den} :
 KonOk P B N r (bodyPost P fn fun e w' => ∃ v Z' us Fr Fi, e = .returned v ∧ Post Z w0 Fs F vs r v w' Z' us Fr Fi) (finOf tab F.outs ((F.ins.filter (·.1)).map (·.2)) fn.results.toList (iosOf 0 F.ins)) := by
 subst hB
 intro x E H a w ⟨m, s, hN, hf⟩ h
 have key : finOf tab F.outs ((F.ins.filter (·.1)).map (·.2)) fn.results.toList (iosOf 0 F.ins) .normal E H = some r → a.defers = [] ∧ ∃ v, (results fn a.tmps).run P w = .ok v w ∧ ∃ v' Z' us Fr Fi, Ending.returned v = .returned v' ∧ Post Z w0 Fs F vs r v' w Z' us Fr Fi := by
  intro h
  refine ⟨s.d, ?_⟩
  simp only [finOf] at h
  split at h
  ·rename_i rs ios hrs hios
   split at h
   ·rename_i xa xb hxa hxb
    split at h
    ·rename_i hck
     split at h
     rotate_left
     ·cases h
     rename_i hnn
     cases h
     simp only [Bool.and_eq_true] at hck
     obtain ⟨c1, c2⟩ := hck
     have c1 := nodupN_iff.1 c1
     have c2 : ∀ i ∈ resRds F.outs rs, i ∉ resOwns F.outs rs ++ ios := fun i hi => by
      have := List.all_eq_true.1 c2 i hi
      exact memN_false.1 (by simpa using this)
     obtain ⟨us, u1, u2⟩ := resVals_ok hT s hrs
     let Zf : Nat → Prop := fun b => m.Z b ∨ ∃ id ∈ resRds F.outs rs, (H id).Live ∧ b ∈ m.ft id
     obtain ⟨r1, r2⟩ := resIn_ok (Zf := Zf) s.h (fun b hb => .inl hb) hxa hnn u2 (fun id hid hl b hb => .inr ⟨id, hid, hl, hb⟩)
     obtain ⟨i1, i2⟩ := io_end (Zf := Zf) (fv := fun i => vs.getD i undef) (ps := F.ins) (t := 0) (vs := vs) s (fun b hb => .inl hb) hios hxb (fun i hi => hf i hi) (fun i hi => by
      rw [Nat.zero_add, List.getD_eq_getElem?_getD, List.getElem?_eq_getElem (by omega)]; rfl)
     have hlive : ∀ id ∈ ios ++ resOwns F.outs rs, (H id).Live := fun id hid => (List.mem_append.1 hid).elim (i2 id) (r2 id)
     have hnd : (ios ++ resOwns F.outs rs).Nodup := by
      rw [List.nodup_append] at c1 ⊢
      exact ⟨c1.2.1, c1.1, fun x hx y hy e => c1.2.2 y hy x hx e.symm⟩
     refine ⟨_, results_run u1, _, Zf, us, (resOwns F.outs rs).flatMap m.ft, ios.flatMap m.ft, rfl, s.h.kp, fun b hb => .inl (s.h.zs b hb), fun b hb => ?_, fun b hb hlt => ?_, ?_, rfl, ?_, ?_, fun b hb => ?_⟩
     ·exact hb.elim (s.h.zl b) fun ⟨i, _, h2, h3⟩ => (s.h.nz i h2 b h3).2.1
     ·exact hb.elim (fun hb => s.h.zi b hb hlt) fun ⟨i, _, h2, h3⟩ => .inr ((s.h.nz i h2 b h3).2.2 hlt)
     ·rw [splitRes_join]; exact r1
     ·rw [splitRes_join]; exact i1
     ·rw [← List.flatMap_append]; exact ft_nodup s.h hnd hlive
     ·rw [← List.flatMap_append] at hb
      obtain ⟨i, h1, h2, h3⟩ := ft_blk hb hlive
      obtain ⟨n1, n2, n3⟩ := s.h.nz i h2 b h3
      refine ⟨fun hz => hz.elim n1 fun ⟨j, j1, j2, j3⟩ => ?_, n2, n3⟩
      have hij : i ≠ j := fun e => c2 j j1 (by rw [← e]; rw [List.mem_append] at h1 ⊢; exact h1.symm)
      exact s.h.sp i j hij h2 j2 b h3 j3
    ·cases h
   ·cases h
  ·cases h
 cases x with
 | normal => exact key h
 | ret => exact key h
 | _ => cases h

theorem ArgsRep.len {Z : Nat → Prop} {w : World} : ∀ {ps : List (Bool × Ty)} {x : (ps.foldr (fun p t => Ty.pair p.2 t) .unit).den} {vs : List Value} {F : List Nat}, ArgsRep Z w ps x vs F → vs.length = ps.length
 | [], _, _, _, h => by rw [h.1]; rfl
 | _ :: _, _, _, _, ⟨v, vs', F1, F2, h1, h2, h3, h4⟩ => by rw [h1, List.length_cons, h4.len]; rfl

def fnOkB (fn : Func) (ins : List (Bool × Ty)) : Bool :=
 codeOkB fn.ntmps (iosOf 0 ins) (bodyOf fn) && fn.body.isSome && Nat.ble ins.length fn.ntmps && ins.all fun p => p.1 || p.2.pure || p.2.vecP
theorem fnE_ok (hm : P.follows .mixedOrders = true) (hT : TabOk P tab) {f : FuncId} {fn : Func} (hf : P.funcs[f]? = some fn) {T : Nat → Nat → Option FunE} {ann : Nat → Option (List Keep)} {ins : List (Bool × Ty)} {outs : List Ty} {n : Nat} (hW : ∀ k, k ≤ n → WaysOk P tab (T k)) (hk : fnOkB fn ins = true) : FunOk P f (fnE tab T ann fn ins outs n) := by
 intro Z w xs vs Fs r hZ hA hn hFs hr
 simp only [fnOkB, Bool.and_eq_true] at hk
 obtain ⟨⟨⟨k1, k2⟩, k3⟩, k4⟩ := hk
 have k3 := Nat.le_of_ble_eq_true k3
 obtain ⟨c, hc⟩ := Option.isSome_iff_exists.1 k2
 have hbody : bodyOf fn = c := by unfold bodyOf; rw [hc]; rfl
 have hlen : vs.length = ins.length := hA.len
 let B : Base := { w := w, F := Fs, Z := Z, fx := iosOf 0 ins, fv := fun i => vs.getD i undef }
 have h0 : ∀ m : Md, m.Z = Z → HOk B m (fun _ => .absent) w := fun m hmz => ⟨fun b hb => hZ b (by rw [← hmz]; exact hb), fun b hb => (by rw [hmz]; exact hb), fun b hb _ => .inl (by rw [hmz] at hb; exact hb), fun _ => trivial, fun _ h => h.elim, fun _ _ _ h => h.elim, fun _ h => h.elim, Kept.refl _ _⟩
 have htm : ∀ k, ((vs.toArray ++ Array.replicate (fn.ntmps - vs.toArray.size) undef).getD k undef) = vs.getD k undef := fun k => by
  rw [Array.getD_eq_getD_getElem?, List.getD_eq_getElem?_getD, Array.getElem?_append]
  simp only [List.size_toArray]
  by_cases hk : k < vs.length
  ·rw [if_pos hk]; simp
  ·rw [if_neg hk, List.getElem?_eq_none (by omega)]
   simp only [Array.getElem?_replicate]
   split <;> rfl
 obtain ⟨m, K⟩ := pars_ok (B := B) (Z := Z) (w := w) h0 (vals := fun k => vs.getD k undef) (t := 0) hA hn (fun b hb => ⟨(hFs b hb).1, (hFs b hb).2, fun _ => hb⟩) k4 (fun i v hi => by simp [List.getD_eq_getElem?_getD, hi])
 refine calls_of_wp hf hc ?_
 have s : SE B fn.ntmps (ofL .junk (pars 0 ins xs).1) (ofL .absent (pars 0 ins xs).2) { tmps := vs.toArray ++ Array.replicate (fn.ntmps - vs.toArray.size) undef, defers := [] } w := by
  refine ⟨m, ⟨K.h, fun t => ?_, rfl⟩, ?_, fun i _ => htm i⟩
  ·rw [htm]; exact K.t t
  ·simp only [Array.size_append, List.size_toArray, Array.size_replicate]; omega
 have hfin := fin_ok (P := P) (B := B) (N := fn.ntmps) hT (fn := fn) (F := fnE tab T ann fn ins outs n) (Z := Z) (w0 := w) (Fs := Fs) (vs := vs) rfl hlen (r := r)
 have hL := runN_ok (P := P) (B := B) (N := fn.ntmps) (r := r) hm (T := T) (ann := ann) hfin n (fun k hk => hW k (by omega))
 have hcl := clos_ok (ann := ann) hm (hW n (Nat.le_refl _)) hL hfin [] rfl
 have := runS_ok hm (hW n (Nat.le_refl _)) hL (bodyOf fn) [] _ _ _ _ _ k1 rfl hcl s hr
 rw [hbody] at this
 exact this
theorem FunOk.spec {f : FuncId} {F : Nat → FunE} {ins : List (Bool × Ty)} {outs : List Ty} {g : (ins.foldr (fun p t => Ty.pair p.2 t) .unit).den → Option ((outs ++ (ins.filter (·.1)).map (·.2)).foldr Ty.pair .unit).den} (hF : ∀ n, FunOk P f (F n)) (hi : ∀ n, (F n).ins = ins) (ho : ∀ n, (F n).outs = outs) : True := trivial
end
end Go.Proofs.Ytadhpgecilhgnaa.A

-- YtadhpgecilhgnaaFn5
set_option linter.unusedVariables false
set_option linter.unusedSimpArgs false
namespace Go.Proofs.Ytadhpgecilhgnaa.A
open Go
def RowOk (P : Program) (f : FuncId) (e : Ty) (g : List e.den → Option (List e.den)) : Prop := ∀ (Z : Nat → Prop) (w : World) (xs ys : List e.den) (v : Value) (F : List Nat),
 (∀ b, Z b → b < w.heap.size) → Rep Z w (.vec e) xs [v] F → F.Nodup → (∀ b ∈ F, ¬ Z b ∧ b < w.heap.size) → g xs = some ys →
 Calls P f #[v] w fun ex w' => ex = .returned (.tuple #[]) ∧ Kept F w w' ∧ ys.length = xs.length ∧ Rep Z w' (.vec e) ys [v] F
structure FunC (P : Program) (f : FuncId) (F : FunE) : Prop where
 ok' : F.row = none → FunOk P f F
 ro : ∀ e g, F.row = some ⟨e, g⟩ → RowOk P f e g
 en : ∃ fn, P.funcs[f]? = some fn ∧ (fn.name == "runtime.NumGoroutine") = false ∧ fn.body.isNone = false
def TOk (P : Program) (T : Nat → Option FunE) : Prop := ∀ f F, T f = some F → FunC P f F
section
variable {P : Program} {B : Base} {m m' m0 : Md} {H H' : Hp} {w w' : World} {o : Oper} {a : Act} {E : Env} {tab : Nat → Option TI} {T : Nat → Option FunE} {N : Nat}

theorem wCallRow_ok {e : Ty} {g : List e.den → Option (List e.den)} {f : FuncId} (hF : RowOk P f e g) (hh : HOk B m H w) {as_ : List AV} {vs : List Value} (hv : All2 (AVRep m w H) as_ vs) (ex : (execOp a.eval o).run P w = .ok (.enter f vs.toArray) w) : WayOk P B m H w o a (wCallRow e g as_) := by
 unfold wCallRow
 split
 ·rename_i id
  match vs, hv with
  | [v], hv =>
   intro Q hQ
   simp only at hQ
   split at hQ
   ·rename_i e' xs hx
    split at hQ
    ·rename_i xs' hc
     obtain ⟨he, hxs⟩ := castTo_eq hc
     cases he
     have hxs : xs = xs' := hxs
     subst hxs
     obtain ⟨ys, hy, hQ⟩ := hQ
     have hQ : Q _ := hQ
     have hx := live_of_only hx
     have hL : (H id).Live := by rw [hx]; trivial
     have hcr := hh.cr id
     rw [hx] at hcr
     have hvd := hv.1.one.2.1 _ _ hx
     subst hvd
     refine ⟨_, _, hQ, ?_⟩
     unfold OpOk
     rw [ex]
     refine (hF m.Z w xs ys _ _ hh.zl hcr (hh.nd id hL) (fun b hb => ⟨(hh.nz id hL b hb).1, (hh.nz id hL b hb).2.1⟩) hy).mono fun e' w' ⟨h1, h2, h3, h4⟩ => ⟨_, h1, ?_⟩
     have hput := putH_cons H id (.live (.row e ys)) [] (by simp)
     have ch : Change B m H w (id :: []) (m.set id (m.hd id) (m.ft id)) (putH H ((id, .live (.row e ys)) :: deads [])) w' :=
      Change.one (w' := w') (ob := .row e ys) hh (by simp) (by simp) h2.os h2.tape h2.output h2.size (fun b hb hnB => h2.block b hb fun hbF => hnB ⟨id, by simp, hL, hbF⟩) h4 (fun z hz => ⟨(hh.nz id hL z hz).1, .inl ⟨id, by simp, hL, hz⟩⟩) (hh.nd id hL) (fun _ => EvoAt.row_ hx hput h3.symm (by simp only [Md.set]; rw [upd_same]))
     exact ⟨_, hh.change ch, hh.evo ch, ⟨[], rfl, trivial⟩⟩
    ·exact hQ.elim
   ·exact hQ.elim
 ·exact WayOk.fail

theorem enter_exec {c : Call} (ho : o.op = .call c) {x : Operand} (hc : c.callee = .value x) {f : FuncId} (hx : a.eval x = .func (.func f) #[] #[]) (hen : ∃ fn, P.funcs[f]? = some fn ∧ (fn.name == "runtime.NumGoroutine") = false ∧ fn.body.isNone = false) :
 (execOp a.eval o).run P w = .ok (.enter f (c.args.map a.eval)) w := by
 obtain ⟨fn, h1, h2, h3⟩ := hen
 simp only [execOp, ho, resolve, hc, hx]
 have h2 : ¬ fn.name = "runtime.NumGoroutine" := by simpa using h2
 have h3 : ¬ fn.body = none := fun hh => by rw [hh] at h3; cases h3
 simp [Deferred.ofValue, invoke, callFunc, h1, h2, h3]
theorem all2_args (s : St B m E H a w) : ∀ {xs : List Operand}, (∀ x ∈ xs, opndOkB x = true) → All2 (AVRep m w H) (xs.map (evalO E)) (xs.map a.eval)
 | [], _ => trivial
 | x :: xs, h => ⟨evalO_ok s (h x (by simp)), all2_args s fun y hy => h y (by simp [hy])⟩
theorem wCall_ok (hT : TabOk P tab) (hC : TOk P T) (s : St B m E H a w) {c : Call} (ho : o.op = .call c) (hx : ∀ x ∈ c.operands, opndOkB x = true) :
 WayOk P B m H w o a (wCall tab T o.dst c (c.args.toList.map (evalO E)) (match c.callee with | .value f => some (evalO E f) | _ => none)) := by
 have hargs := all2_args s (xs := c.args.toList) fun x h => hx x (by simp [Call.operands]; exact .inr (by simpa using h))
 have hmap : (c.args.map a.eval).toList = c.args.toList.map a.eval := by simp
 have hmap' : c.args.map a.eval = (c.args.toList.map a.eval).toArray := by rw [← hmap]
 unfold wCall
 cases hc : c.callee with
 | invoke r n => exact WayOk.fail
 | value x =>
  simp only
  split
  ·rename_i f u he
   split
   ·rename_i F hF
    have hfc := hC f F (by simpa using hF)
    simp only [Option.some.injEq] at he
    have hev := evalO_ok s (hx x (by simp [Call.operands, hc]))
    rw [he] at hev
    have hfv : a.eval x = .func (.func f) #[] #[] := by
     have := hev.one
     obtain ⟨h1, _⟩ := (this : [a.eval x] = [.func (.func f) #[] #[]] ∧ _)
     simpa using h1
    split
    ·rename_i q hq
     exact wCallRow_ok (hfc.ro _ _ hq) s.h hargs (by rw [enter_exec ho hc hfv hfc.en, hmap'])
    ·rename_i hq
     exact wCallM_ok (hfc.ok' hq) s.h hargs (by rw [enter_exec ho hc hfv hfc.en, hmap'])
   ·exact WayOk.fail
  ·exact WayOk.fail
 | builtin b =>
  cases b <;> simp only <;> try exact WayOk.fail
  case len =>
   split
   ·rename_i x hxs hsz
    have hsz := Nat.eq_of_beq_eq_true hsz
    match hc1 : c.args.toList, hxs, hargs with
    | [y], hxs, hargs =>
     simp only [List.map_cons, List.map_nil, List.cons.injEq, and_true] at hxs
     subst hxs
     rw [hc1] at hmap'
     have h1 := hargs.1
     refine wLen_ok hT s.h h1 fun n hn => exec_call_builtin ho hc ?_
     have hts : c.argTypes = #[c.argTypes.getD 0 0] := by
      apply Array.ext
      ·simpa using hsz
      ·intro i h1 h2
       have : i = 0 := by omega
       subst this
       simp [Array.getD, h1]
     generalize c.argTypes.getD 0 0 = t at hts hn
     rw [hts]
     simp only [builtin, hmap', List.map_cons, List.map_nil]
     rw [show ([a.eval y] : List Value).toArray = #[a.eval y] from rfl]
     simp only [Sem.run_bind, hn, Result.andThen_ok, Sem.run_pure]
   ·exact WayOk.fail
  case append =>
   split
   ·rename_i x y hxs
    match hc1 : c.args.toList, hxs, hargs with
    | [x1, y1], hxs, hargs =>
     simp only [List.map_cons, List.map_nil, List.cons.injEq, and_true] at hxs
     obtain ⟨rfl, rfl⟩ := hxs
     rw [hc1] at hmap'
     refine wAppendB_ok hT s.h hargs.1 hargs.2.1 fun v w' hv => ?_
     simp only [execOp, ho, resolve, hc]
     simp only [Sem.run_bind, Sem.run_pure, Result.andThen_ok, invoke, builtin, hmap', List.map_cons, List.map_nil]
     rw [show ([a.eval x1, a.eval y1] : List Value).toArray = #[a.eval x1, a.eval y1] from rfl, hv]
     rfl
   ·exact WayOk.fail
  case max =>
   refine wMinMax_ok s.h hargs (fun x y => by unfold mxI; split <;> simp) max2_run fun x rest u hl hu => exec_call_builtin ho hc ?_
   simp only [builtin, Builtin.max_, hmap, hl, Sem.run_bind, hu, Result.andThen_ok, Sem.run_pure]
  case min =>
   refine wMinMax_ok s.h hargs (fun x y => by unfold mnI; split <;> simp) min2_run fun x rest u hl hu => exec_call_builtin ho hc ?_
   simp only [builtin, Builtin.min_, hmap, hl, Sem.run_bind, hu, Result.andThen_ok, Sem.run_pure]

theorem wayD_ok (hT : TabOk P tab) (B : Base) (m : Md) (H : Hp) (w : World) (a : Act) (E : Env) (o : Oper) (t : DT (AV × List (Nat × Cell))) (hx : o.op.operands.toList.all opndOkB = true) (s : St B m E H a w) (h : wayD tab E H o = some t) : WayDOk P B m H w o a t := by
 have hx : ∀ x ∈ o.op.operands, opndOkB x = true := fun x h => List.all_eq_true.1 hx x (by simpa using h)
 unfold wayD at h
 split at h
 ·cases h
 ·split at h
  ·rename_i ho
   exact nilWay_ok hT s.h (.inl ⟨rfl, ho⟩) (evalO_ok s (hx _ (by rw [ho]; simp [Op.operands]))) h
  ·rename_i ho
   exact nilWay_ok hT s.h (.inr ⟨rfl, ho⟩) (evalO_ok s (hx _ (by rw [ho]; simp [Op.operands]))) h
  ·rename_i ho
   exact nextWay_ok s.h ho (evalO_ok s (hx _ (by rw [ho]; simp [Op.operands]))) h
  ·cases h
theorem way_ok (hT : TabOk P tab) (hC : TOk P T) : WaysOk P tab T := by
 refine ⟨fun B m H w a E o hx s => ?_, wayD_ok hT⟩
 have hx : ∀ x ∈ o.op.operands, opndOkB x = true := fun x h => List.all_eq_true.1 hx x (by simpa using h)
 unfold way
 cases ho : o.op <;> (try simp only [ho, Op.operands] at hx) <;> (try simp only) <;> try exact WayOk.fail
 case move x => exact WayOk.val s.h (by simp only [execOp, ho, Sem.run_pure]) (evalO_ok s (hx x (by simp)))
 case assign x => exact WayOk.val s.h (by simp only [execOp, ho, Sem.run_pure]) (evalO_ok s (hx x (by simp)))
 case pick c x y => exact wPick_ok s.h ho (evalO_ok s (hx c (by simp))) (evalO_ok s (hx x (by simp))) (evalO_ok s (hx y (by simp)))
 case nilCheck x => exact wNilCheckB_ok s.h ho (evalO_ok s (hx x (by simp)))
 case alloc t =>
  split
  ·rename_i i hi
   obtain ⟨inf, z, k1, k2, k3, k4, k5, k6⟩ := (hT t i hi).info
   refine wBox_ok (t := t) (v := .agg z.cells) s.h ⟨z.cells.toList, by simp [IsV], k6.mono fun _ _ h => h.l⟩ fun cs ⟨g, ls, h1, h2⟩ h3 => ?_
   cases h1
   have : z.cells = cs.toArray := by simpa [IsV] using h2
   rw [← this]
   exact alloc_exec ho k1 k4
  ·exact WayOk.fail
 case box t x =>
  refine wBox_ok (t := t) s.h (evalO_ok s (hx x (by simp))) fun cs ⟨g, ls, h1, h2⟩ h3 => box_exec ho (isV_cells h2 h3)
 case build t ps => exact wBuild_ok hT s.h ho (all2_parts s fun p hp => hx p.2 (by simp; exact ⟨p.1, by simpa using hp⟩))
 case buildSlice t n ps => exact wBuildSliceF_ok hT s.h ho (all2_parts s fun p hp => hx p.2 (by simp; exact ⟨p.1, by simpa using hp⟩))
 case load t x => exact wLoadB_ok hT s.h ho (evalO_ok s (hx x (by simp)))
 case store t x y => exact wStore_ok hT s.h ho (evalO_ok s (hx x (by simp))) (evalO_ok s (hx y (by simp)))
 case binOp op t x y yt => exact wBinN_ok hT s.h ho (evalO_ok s (hx x (by simp))) (evalO_ok s (hx y (by simp)))
 case unOp op t x => exact wUn_ok s.h ho (evalO_ok s (hx x (by simp)))
 case convert t d x => exact wConvertB_ok hT s.h ho (evalO_ok s (hx x (by simp)))
 case makeSlice t x y => exact wMakeSlice_ok hT s.h ho (evalO_ok s (hx x (by simp))) (evalO_ok s (hx y (by simp)))
 case slice t x lo hi mx =>
  cases mx with
  | some _ => exact WayOk.fail
  | none => exact wSlice_ok hT s.h ho (evalO_ok s (hx x (by simp))) (optRep_map s fun y hy => hx y (by simp [hy])) (optRep_map s fun y hy => hx y (by simp [hy]))
 case fieldAddr t x f => exact wFieldAddrB_ok hT s.h ho (evalO_ok s (hx x (by simp)))
 case field t x f => exact wField_ok hT s.h ho (evalO_ok s (hx x (by simp)))
 case indexAddr t x i => exact wIndexAddr_ok hT s.h ho (evalO_ok s (hx x (by simp))) (evalO_ok s (hx i (by simp)))
 case index t x i => exact wIndex_ok hT s.h ho (evalO_ok s (hx x (by simp))) (evalO_ok s (hx i (by simp)))
 case extract x n => exact wExtract_ok s.h ho (evalO_ok s (hx x (by simp)))
 case call c => exact wCall_ok hT hC s ho hx
 case makeMap t r =>
  cases r with
  | some _ => exact WayOk.fail
  | none => exact wMakeMapB_ok hT s.h ho
 case insert t x k y => exact wMapUpdateB_ok hT s.h (.inr ho) (evalO_ok s (hx x (by simp))) (evalO_ok s (hx k (by simp))) (evalO_ok s (hx y (by simp)))
 case mapUpdate t x k y => exact wMapUpdateB_ok hT s.h (.inl ho) (evalO_ok s (hx x (by simp))) (evalO_ok s (hx k (by simp))) (evalO_ok s (hx y (by simp)))
 case range t x => exact wRange_ok hT s.h ho (evalO_ok s (hx x (by simp)))
 case entry x => exact wEntry_ok s.h ho (evalO_ok s (hx x (by simp)))
 case lookup t x k ok => exact wLookupB_ok hT s.h ho (evalO_ok s (hx x (by simp))) (evalO_ok s (hx k (by simp)))
end
end Go.Proofs.Ytadhpgecilhgnaa.A

-- YtadhpgecilhgnaaOpn
set_option linter.unusedVariables false
set_option linter.unusedSimpArgs false
namespace Go.Proofs.Ytadhpgecilhgnaa.A
open Go

def Ty.low : Ty → Nat
 | .bool => 1
 | .int k => k.bits / 8
 | .str => 16
 | .sl _ => 24
 | .pair a b => a.low + b.low
 | _ => 0
def okT : (τ : Ty) → τ.den → Prop
 | .int k, n => k.min ≤ n ∧ n ≤ k.max
 | .str, s => s.length ≤ 140737488351232
 | .sl e, xs => xs.length ≤ 140737488351232 ∧ xs.length * e.low ≤ 140737488351232 ∧ ∀ x ∈ xs, okT e x
 | .pair a b, x => okT a x.1 ∧ okT b x.2
 | _, _ => True
def fitB (P : Program) : Nat → Ty → Nat ⊕ (List Go.Field × Nat) → Bool
 | 0, _, _ => false
 | n + 1, τ, .inl t => (match P.underlying t, τ with
  | some .bool, .bool => true
  | some (.int k'), .int k => decide (k' = k)
  | some .string, .str => true
  | some (.slice et), .sl e => fitB P n e (.inl et) && Nat.beq (P.cellsOf et) e.cells && Nat.ble 1 e.cells && Nat.ble e.low (P.bytesOf et) && Nat.ble 1 (P.bytesOf et)
  | some (.struct fs), τ => Nat.beq (P.cellsOf t) τ.cells && fitB P n τ (.inr (fs.toList, 0))
  | _, _ => false)
 | n + 1, τ, .inr ([f], off) => Nat.beq f.offset off && fitB P n τ (.inl f.type) && Nat.beq (P.cellsOf f.type) τ.cells
 | n + 1, .pair a b, .inr (f :: g :: fs, off) => Nat.beq f.offset off && fitB P n a (.inl f.type) && Nat.beq (P.cellsOf f.type) a.cells && fitB P n b (.inr (g :: fs, off + a.cells))
 | _, _, _ => false

section
variable {P : Program} {w : World} {Z : Nat → Prop}
theorem list_of {α : Type} (p : Nat → α → Prop) : ∀ n : Nat, (∀ i, i < n → ∃ y, p i y) → ∃ l : List α, l.length = n ∧ ∀ i y, l[i]? = some y → p i y := by
 intro n
 induction n with
 | zero => intro _; exact ⟨[], rfl, fun i y h => by simp at h⟩
 | succ n ih =>
  intro h
  obtain ⟨l, hl, hp⟩ := ih (fun i hi => h i (by omega))
  obtain ⟨y, hy⟩ := h n (by omega)
  refine ⟨l ++ [y], by simp [hl], fun i z hz => ?_⟩
  by_cases hi : i < l.length
  ·exact hp i z (by rwa [List.getElem?_append_left hi] at hz)
  ·rw [List.getElem?_append_right (by omega)] at hz
   have hi2 : i - l.length < 1 := by
    rcases Nat.lt_or_ge (i - l.length) 1 with h | h
    ·exact h
    ·rw [List.getElem?_eq_none (by simpa using h)] at hz
     cases hz
   have e : i = n := by omega
   subst e
   rw [hl] at hz
   simp at hz
   subst hz
   exact hy
theorem weightsAll_mem {H : Type} {P : Program} {e : TypeId} {d : DataW H} : ∀ {l : List (DataW H)}, d ∈ l → ∀ n ∈ d.weights P e, n ∈ DataW.weightsAll P e l := by
 intro l
 induction l with
 | nil => intro h; cases h
 | cons a l ih =>
  intro h n hn
  rw [DataW.weightsAll, List.mem_append]
  rcases List.mem_cons.1 h with rfl | h
  ·exact .inl hn
  ·exact .inr (ih h n hn)
theorem int_wf {k : IntKind} {n : Int} (h : (Lit.int k n).wf = true) : k.min ≤ n ∧ n ≤ k.max := by
 simpa [Lit.wf] using h
theorem repL_of {e : Ty} {b o : Nat} : ∀ (l : List e.den) (k : Nat), (∀ (i : Nat) (y : e.den), l[i]? = some y → ∃ c, Rep Z w e y c [] ∧ ∀ (j : Nat) (u : Value), c[j]? = some u → w.cell? ⟨b, o + ((k + i) * e.cells + j), none⟩ = some u) →
 ∃ c, RepL (fun x c F => Rep Z w e x c F) l c [] ∧ ∀ (j : Nat) (u : Value), c[j]? = some u → w.cell? ⟨b, o + (k * e.cells + j), none⟩ = some u
 | [], k, _ => ⟨[], ⟨rfl, rfl⟩, by simp⟩
 | y :: l, k, h => by
  obtain ⟨c, h1, h2⟩ := h 0 y rfl
  obtain ⟨cs, g1, g2⟩ := repL_of l (k + 1) fun i z hz => by
   have := h (i + 1) z (by simpa using hz)
   rwa [show k + (i + 1) = k + 1 + i by omega] at this
  refine ⟨c ++ cs, ⟨c, cs, [], [], rfl, rfl, h1, g1⟩, fun j u hu => ?_⟩
  have hl := h1.len
  rw [List.getElem?_append] at hu
  split at hu
  ·exact h2 j u hu
  ·rename_i hj
   have := g2 _ u hu
   rwa [show o + ((k + 1) * e.cells + (j - c.length)) = o + (k * e.cells + j) by rw [Nat.succ_mul]; omega] at this

theorem fit_ok (hZ : ∀ b, b < w.heap.size → Z b) {H : Type} {enc : TypeId × Value → H} : ∀ (n : Nat) (τ : Ty) (q : Nat ⊕ (List Go.Field × Nat)), fitB P n τ q = true → match q with
 | .inl t => ∀ {fuel : Nat} {cs : List Value} {x : DataW H × List MemPlace}, DataW.trod enc P w 0 (fun _ => true) true fuel t cs = some x → (∀ n ∈ x.1.weights P t, n ≤ reachBytes) → ∃ y, Rep Z w τ y cs [] ∧ okT τ y
 | .inr (fs, off) => ∀ {fuel : Nat} {cs : List Value} {xs : List (DataW H × List MemPlace)}, xs.length = fs.length → cs.length = off + τ.cells →
  (∀ (i : Nat) (f : Go.Field), fs[i]? = some f → DataW.trod enc P w 0 (fun _ => true) true fuel f.type ((cs.drop f.offset).take (P.cellsOf f.type)) = xs[i]?) →
  (∀ m ∈ DataW.weightsEach P (fs.map (·.type)) (xs.map (·.1)), m ≤ reachBytes) → ∃ y, Rep Z w τ y (cs.drop off) [] ∧ okT τ y := by
 intro n
 induction n with
 | zero => intro τ q h; cases h
 | succ n ih =>
  intro τ q h
  cases q with
  | inl t =>
   intro fuel cs x hx hw
   simp only [fitB] at h
   split at h
   ·rename_i hu
    obtain ⟨b, rfl, _⟩ := DataW.trod_bool hu hx
    exact ⟨b, ⟨rfl, rfl⟩, trivial⟩
   ·rename_i k' k hu
    have hk : k' = k := by simpa using h
    subst hk
    obtain ⟨m, rfl, _, hm⟩ := DataW.trod_int hu hx
    exact ⟨m, ⟨rfl, rfl, int_wf hm⟩, int_wf hm⟩
   ·rename_i hu
    obtain ⟨s, rfl, rfl, hs⟩ := DataW.trod_string hu hx
    have := hw s.data.toList.length (by simp [DataW.weights])
    have hl : s.data.toList.length ≤ 140737488351232 := by simpa [reachBytes] using this
    exact ⟨s.data.toList, ⟨rfl, rfl, by unfold big; omega⟩, hl⟩
   ·rename_i et e hu
    simp only [Bool.and_eq_true] at h
    obtain ⟨⟨⟨⟨h1, h2⟩, h3⟩, h4⟩, h5⟩ := h
    have h2 := Nat.eq_of_beq_eq_true h2
    have h3 := Nat.le_of_ble_eq_true h3
    have h4 := Nat.le_of_ble_eq_true h4
    have h5 := Nat.le_of_ble_eq_true h5
    rcases DataW.trod_slice hu hx with ⟨rfl, rfl⟩ | ⟨a, len, cap, elems, rest, m, _, rfl, rfl, hb, hl, hm, hlen, hel, hsp, _⟩
    ·exact ⟨[], ⟨rfl, by simp, none, 0, rfl, by simp, .inl rfl⟩, by simp, by simp, by simp⟩
    ·have each : ∀ i, i < len → ∃ y, (∃ c, Rep Z w e y c [] ∧ ∀ (j : Nat) (u : Value), c[j]? = some u → w.cell? (a.add (i * e.cells + j)) = some u) ∧ okT e y := by
      intro i hi
      have h1' := hel i hi
      have hi2 : i < elems.length := by omega
      rw [List.getElem?_eq_getElem hi2, Option.bind_eq_some_iff] at h1'
      obtain ⟨c, hcs, hc2⟩ := h1'
      obtain ⟨_, hcl, hcc⟩ := World.cells?_some hcs
      obtain ⟨y, hy, ho⟩ := ih e (.inl et) h1 hc2 (fun m hm => hw m (by
       rw [DataW.weights]
       simp only [hu, List.mem_cons, List.mem_append]
       exact .inr (.inl (weightsAll_mem (List.mem_map_of_mem (f := Prod.fst) (List.getElem_mem hi2)) m hm))))
      refine ⟨y, ⟨c, hy, fun j u hu' => ?_⟩, ho⟩
      have hj : j < P.cellsOf et := by
       rcases Nat.lt_or_ge j c.length with h | h
       ·omega
       ·rw [List.getElem?_eq_none h] at hu'
        cases hu'
      have := hcc j hj
      rw [hu', Go.Addr.add_add, h2] at this
      exact this
     obtain ⟨l, hll, hp⟩ := list_of _ len each
     have hlb : len * P.bytesOf et ≤ 140737488351232 := by
      have h1 : ((elems.map (·.1)).length + (rest.map (·.1)).length) * P.bytesOf et ≤ reachBytes := hw _ (by
       rw [DataW.weights]
       simp only [hu]
       exact List.mem_cons_self)
      have h2 : len * P.bytesOf et ≤ ((elems.map (·.1)).length + (rest.map (·.1)).length) * P.bytesOf et := Nat.mul_le_mul_right _ (by simp; omega)
      simpa [reachBytes] using Nat.le_trans h2 h1
     have hl1 : len ≤ 140737488351232 := Nat.le_trans (by simpa using Nat.mul_le_mul_left len h5) hlb
     have hl2 : len * e.low ≤ 140737488351232 := Nat.le_trans (Nat.mul_le_mul_left len h4) hlb
     refine ⟨l, ⟨rfl, by unfold big; omega, some a, cap, by rw [hll], by omega, ?_⟩, by omega, by rw [hll]; exact hl2, fun x hx => ?_⟩
     ·by_cases hl0 : l = []
      ·exact .inl hl0
      ·right
       have h0 : 0 < l.length := List.length_pos_iff.2 hl0
       -- the first cell
       obtain ⟨⟨c, hc1, hc2⟩, _⟩ := hp 0 _ (List.getElem?_eq_getElem h0)
       have hc0 : 0 < c.length := by rw [hc1.len]; omega
       have hcell := hc2 0 _ (List.getElem?_eq_getElem hc0)
       rw [show a.add (0 * e.cells + 0) = a by simp [Go.Addr.add]] at hcell
       have hadd : a.spot = none ∧ a.block < w.heap.size := by
        obtain ⟨bb, oo, ss⟩ := a
        simp only [World.cell?] at hcell
        cases ss with
        | none =>
         refine ⟨rfl, ?_⟩
         cases hh : w.heap[bb]? with
         | none => rw [hh] at hcell; cases hcell
         | some ob => exact (Array.getElem?_eq_some_iff.1 hh).1
        | some s =>
         split at hcell
         ·simp at hcell
         ·cases hcell
       obtain ⟨bb, oo, ss⟩ := a
       obtain ⟨hs, hbb⟩ := hadd
       simp only at hs hbb
       subst hs
       obtain ⟨cc, g1, g2⟩ := repL_of (Z := Z) (w := w) (b := bb) (o := oo) l 0 fun i y hy => by
        obtain ⟨⟨c, k1, k2⟩, _⟩ := hp i y hy
        exact ⟨c, k1, fun j u hu => by have := k2 j u hu; rw [aad] at this; rwa [Nat.zero_add]⟩
       exact ⟨bb, oo, cc, rfl, hZ bb hbb, g1, fun j u hu => by have := g2 j u hu; rwa [Nat.zero_mul, Nat.zero_add] at this⟩
     ·obtain ⟨i, hi⟩ := List.getElem?_of_mem hx
      exact (hp i x hi).2
   ·rename_i fs hu
    simp only [Bool.and_eq_true] at h
    have hc := Nat.eq_of_beq_eq_true h.1
    obtain ⟨xs, m, _, rfl, hcl, hxl, hf⟩ := DataW.trod_struct hu hx
    have := ih _ (.inr (fs.toList, 0)) h.2 (fuel := m) (cs := cs) (xs := xs) (by simpa using hxl) (by rw [hcl, hc]; simp) (fun i f hi => hf i f (by simpa using hi)) (fun m hm => hw m (by
     rw [DataW.weights]
     simp only [hu]
     exact hm))
    simpa using this
   ·cases h
  | inr p =>
   obtain ⟨fs, off⟩ := p
   intro fuel cs xs hxs hcs hf hw
   match fs, hxs, hf, hw, h with
   | [], _, _, _, h => simp [fitB] at h
   | [f], hxs, hf, hw, h =>
    simp only [fitB, Bool.and_eq_true] at h
    obtain ⟨⟨h1, h2⟩, h3⟩ := h
    have h1 := Nat.eq_of_beq_eq_true h1
    have h3 := Nat.eq_of_beq_eq_true h3
    obtain ⟨x, rfl⟩ : ∃ x, xs = [x] := by
     match xs, hxs with
     | [x], _ => exact ⟨x, rfl⟩
    have hx := hf 0 f rfl
    rw [h1, List.take_of_length_le (by simp; omega)] at hx
    exact ih τ (.inl f.type) h2 hx (fun m hm => hw m (by simpa [DataW.weightsEach] using hm))
   | f :: g :: fs, hxs, hf, hw, h =>
    cases τ <;> try (simp [fitB] at h; done)
    rename_i a b _
    simp only [fitB, Bool.and_eq_true] at h
    obtain ⟨⟨⟨h1, h2⟩, h3⟩, h4⟩ := h
    have h1 := Nat.eq_of_beq_eq_true h1
    have h3 := Nat.eq_of_beq_eq_true h3
    match xs, hxs with
    | x :: xs, hxs =>
     have hx := hf 0 f rfl
     rw [h1] at hx
     obtain ⟨y, hy, hoy⟩ := ih a (.inl f.type) h2 (x := x) hx (fun m hm => hw m (by simp [DataW.weightsEach]; exact .inl hm))
     obtain ⟨z, hz, hoz⟩ := ih b (.inr (g :: fs, off + a.cells)) h4 (fuel := fuel) (cs := cs) (xs := xs) (by simpa using hxs) (by rw [hcs]; simp only [Ty.cells]; omega) (fun i f' hi => by have := hf (i + 1) f' (by simpa using hi); simpa using this) (fun m hm => hw m (by
      simp only [List.map_cons, DataW.weightsEach, List.mem_append]
      simp only [List.map_cons, DataW.weightsEach, List.mem_append] at hm
      exact .inr hm))
     refine ⟨(y, z), ⟨_, _, [], [], ?_, rfl, hy, hz⟩, hoy, hoz⟩
     rw [h3, ← List.drop_drop, List.take_append_drop]
theorem weights_of {H : Type} {P : Program} {t : TypeId} {x : DataW H} : ∀ {ts : List TypeId} {ds : List (DataW H)} {j : Nat}, (DataW.weightsEach P ts ds).all (· ≤ reachBytes) = true → ts[j]? = some t → ds[j]? = some x → ∀ n ∈ x.weights P t, n ≤ reachBytes := by
 intro ts
 induction ts with
 | nil => intro ds j _ h; simp at h
 | cons a ts ih =>
  intro ds j hw ht hd n hn
  match ds with
  | [] => simp at hd
  | d :: ds =>
   rw [DataW.weightsEach, List.all_append, Bool.and_eq_true] at hw
   cases j with
   | zero =>
    simp at ht hd
    subst ht; subst hd
    simpa using List.all_eq_true.1 hw.1 n hn
   | succ j => exact ih hw.2 (by simpa using ht) (by simpa using hd) n hn
def argFitB (P : Program) (τ : Ty) (t : Nat) : Bool := fitB P 60 τ (.inl t) && (match P.underlying t with | some (.struct _) => !τ.one | _ => τ.one)
theorem arg_open (hZ : ∀ b, b < w.heap.size → Z b) {H : Type} {enc : TypeId × Value → H} {τ : Ty} {t : Nat} (hfit : argFitB P τ t = true) {r : Reach} {base : Nat} {v : Value} {x : DataW H} {ps : List MemPlace} {ts : List TypeId} {ds : List (DataW H)} {j : Nat}
 (hsz : (DataW.weightsEach P ts ds).all (· ≤ reachBytes) = true) (hj : ts[j]? = some t) (hd : ds[j]? = some x) (hv : Value.okWide P w r base t v) (h : DataW.Trod enc P w 0 (fun _ => true) true t v x ps) :
 ∃ y, ArgRep Z w false τ y v [] ∧ okT τ y := by
 unfold argFitB at hfit
 rw [Bool.and_eq_true] at hfit
 obtain ⟨fuel, hf⟩ := h
 have hwt : ∀ n ∈ x.weights P t, n ≤ reachBytes := weights_of hsz hj hd
 obtain ⟨y, hy, ho⟩ := fit_ok (P := P) hZ 60 τ (.inl t) hfit.1 hf hwt
 refine ⟨y, ⟨v.cells.toList, ?_, hy⟩, ho⟩
 have h2 := hfit.2
 have h1 : fitB P (59 + 1) τ (.inl t) = true := hfit.1
 unfold fitB at h1
 split at h1
 ·rename_i hu
  rw [hu] at h2
  obtain ⟨c, rfl⟩ := WideShapes.okWide_bool hu hv
  rw [show (!Ty.bool.one) = false from rfl]; rfl
 ·rename_i k' k hu
  obtain ⟨c, rfl⟩ := WideShapes.okWide_int hu hv
  rfl
 ·rename_i hu
  obtain ⟨c, rfl⟩ := WideShapes.okWide_string hu hv
  rfl
 ·rename_i et e hu
  obtain ⟨a, len, cap, rfl⟩ := WideShapes.okWide_slice hu hv
  rfl
 ·rename_i fs hu
  rw [hu] at h2
  obtain ⟨cs, rfl, _⟩ := WideShapes.okWide_struct hu hv
  simp only at h2
  rw [h2]
  simp [IsV, Value.cells]
 ·cases h1
end
end Go.Proofs.Ytadhpgecilhgnaa.A

-- YtadhpgecilhgnaaTb
set_option linter.unusedVariables false
set_option linter.unusedSimpArgs false
namespace Go.Proofs.Ytadhpgecilhgnaa.A
open Go
def zrepB : LV → Value → Bool
 | .v .bool b, .bool c => b == c
 | .v (.int k) n, .int k' m => decide (k' = k) && decide (m = n) && decide (k.min ≤ n) && decide (n ≤ k.max)
 | .v .str l, .string s => decide (s.data.toList = l) && decide (l.length ≤ big)
 | .nils, .slice none 0 0 => true
 | .nilm, .map none => true
 | .nilp, .pointer none => true
 | .junk, _ => true
 | _, _ => false
def zrepsB : List LV → List Value → Bool
 | [], [] => true
 | l :: ls, c :: cs => zrepB l c && zrepsB ls cs
 | _, _ => false
def aggB : Value → Bool
 | .agg _ => true
 | .tuple _ => false
 | _ => false
def oneFitsB (P : Program) (t : Nat) : Ty → Bool
 | .int k => (match P.underlying t with | some (.int k') => decide (k' = k) | _ => false)
 | .bool => (match P.underlying t with | some .bool => true | _ => false)
 | .str => (match P.underlying t with | some .string => true | _ => false)
 | _ => false
def eqFB (P : Program) : Nat → List Go.Field → Ty → Bool
 | _, [], _ => false
 | off, [f], τ => decide (f.name ≠ "_") && Nat.beq f.offset off && oneFitsB P f.type τ
 | off, f :: g :: fs, .pair a b => decide (f.name ≠ "_") && Nat.beq f.offset off && oneFitsB P f.type a && eqFB P (off + 1) (g :: fs) b
 | _, _, _ => false
def descFitsB (i : TI) (d : TypeDesc) : Bool :=
 match i.ty, d with
 | .int k, .int k' => decide (k' = k)
 | .int _, _ => false
 | .bool, .bool => true
 | .bool, _ => false
 | .str, .string => true
 | .str, _ => false
 | .sl _, .slice e => Nat.beq e i.elem
 | .sl _, _ => false
 | .map _ _, .map k e => Nat.beq k i.key && Nat.beq e i.elem
 | .map _ _, _ => false
 | .ptr _, .pointer _ => true
 | .ptr _, _ => false
 | _, _ => true
def fieldsB : List Go.Field → List (Nat × Nat) → Bool
 | [], [] => true
 | f :: fs, p :: ps => Nat.beq f.offset p.1 && Nat.beq f.type p.2 && fieldsB fs ps
 | _, _ => false
def rowOkB (P : Program) (t : Nat) (i : TI) : Bool :=
 (match P.info? t with
  | some inf => Nat.beq inf.size i.ty.cells && Nat.beq inf.bytes i.bytes && (match inf.zero with | some z => (aggB z == i.agg) && zrepsB i.zero z.cells.toList && (i.agg || (match z with | .tuple _ => false | _ => true)) | none => false)
  | none => false) &&
 (i.agg || i.ty.one) && Nat.beq i.zero.length i.ty.cells && Nat.ble i.bytes 4096 &&
 (match i.agg with
  | true => (match P.underlying t with
   | some (.struct fs) => (fs.toList.mapM (fun f => (P.info? f.type).map fun i => (f.offset, i.size))).isSome && (!i.ty.eqB || (eqFB P 0 fs.toList i.ty && !(P.eqGuardType P.depth t))) && !(P.stoodInHeld t) && fieldsB fs.toList i.fields
   | _ => false)
  | false => (match P.underlying t with | some d => plainDesc d && descFitsB i d | none => false))
section
variable {P : Program}
theorem zrep_of : ∀ {l : LV} {c : Value}, zrepB l c = true → ZRep l c := by
 intro l c h
 unfold zrepB at h
 split at h
 ·rename_i b c
  have : b = c := by simpa using h
  subst this
  rfl
 ·simp only [Bool.and_eq_true, decide_eq_true_eq] at h
  obtain ⟨⟨⟨rfl, rfl⟩, h3⟩, h4⟩ := h
  exact ⟨rfl, h3, h4⟩
 ·rename_i l s
  simp only [Bool.and_eq_true, decide_eq_true_eq] at h
  obtain ⟨h1, h2⟩ := h
  subst h1
  exact ⟨rfl, h2⟩
 ·rfl
 ·rfl
 ·rfl
 ·trivial
 ·cases h
theorem zreps_of : ∀ {ls : List LV} {cs : List Value}, zrepsB ls cs = true → All2 ZRep ls cs
 | [], [], _ => trivial
 | l :: ls, c :: cs, h => by
  simp only [zrepsB, Bool.and_eq_true] at h
  exact ⟨zrep_of h.1, zreps_of h.2⟩
 | [], _ :: _, h => by cases h
 | _ :: _, [], h => by cases h
theorem oneFits_of {t : Nat} {τ : Ty} (h : oneFitsB P t τ = true) : oneFits P t τ := by
 cases τ <;> try (cases h; done)
 all_goals
  simp only [oneFitsB] at h
  split at h
 ·rename_i hu; exact hu
 ·cases h
 ·rename_i k' hu
  have h := of_decide_eq_true h
  subst h
  exact hu
 ·cases h
 ·rename_i hu; exact hu
 ·cases h
theorem eqF_of : ∀ {fs : List Go.Field} {off : Nat} {τ : Ty}, eqFB P off fs τ = true → EqF P off fs τ
 | [], off, τ, h => by simp [eqFB] at h
 | [f], off, τ, h => by
  simp only [eqFB, Bool.and_eq_true, decide_eq_true_eq] at h
  obtain ⟨⟨h1, h2⟩, h3⟩ := h
  cases τ <;> exact ⟨h1, Nat.eq_of_beq_eq_true h2, oneFits_of h3⟩
 | f :: g :: fs, off, τ, h => by
  cases τ <;> try (simp [eqFB] at h; done)
  simp only [eqFB, Bool.and_eq_true, decide_eq_true_eq] at h
  obtain ⟨⟨⟨h1, h2⟩, h3⟩, h4⟩ := h
  exact ⟨h1, Nat.eq_of_beq_eq_true h2, oneFits_of h3, eqF_of h4⟩
theorem descFits_of {i : TI} {d : TypeDesc} (h : descFitsB i d = true) : descFits i d := by
 unfold descFitsB at h
 unfold descFits
 generalize i.ty = τ at h ⊢
 cases τ <;> cases d <;> first
  | exact False.elim (Bool.false_ne_true h)
  | exact trivial
  | exact rfl
  | exact ⟨_, rfl⟩
  | exact congrArg TypeDesc.int (of_decide_eq_true h)
  | exact congrArg TypeDesc.slice (Nat.eq_of_beq_eq_true h)
  | exact (by
   have h := (Bool.and_eq_true _ _).mp h
   exact congr (congrArg TypeDesc.map (Nat.eq_of_beq_eq_true h.1)) (Nat.eq_of_beq_eq_true h.2))
theorem fields_of : ∀ {fs : List Go.Field} {ps : List (Nat × Nat)}, fieldsB fs ps = true → fs.length = ps.length ∧ ∀ (f o ft : Nat), ps[f]? = some (o, ft) → ∃ fd : Go.Field, fs[f]? = some fd ∧ fd.offset = o ∧ fd.type = ft
 | [], [], _ => ⟨rfl, by simp⟩
 | f :: fs, p :: ps, h => by
  simp only [fieldsB, Bool.and_eq_true] at h
  obtain ⟨⟨h1, h2⟩, h3⟩ := h
  obtain ⟨g1, g2⟩ := fields_of h3
  refine ⟨by simp [g1], fun k o ft hk => ?_⟩
  cases k with
  | zero =>
   simp only [List.getElem?_cons_zero, Option.some.injEq] at hk
   subst hk
   exact ⟨f, rfl, Nat.eq_of_beq_eq_true h1, Nat.eq_of_beq_eq_true h2⟩
  | succ k => simpa using g2 k o ft (by simpa using hk)
 | [], _ :: _, h => by cases h
 | _ :: _, [], h => by cases h
theorem rowOk_of {t : Nat} {i : TI} (h : rowOkB P t i = true) : TyOk P t i := by
 unfold rowOkB at h
 simp only [Bool.and_eq_true] at h
 obtain ⟨⟨⟨⟨h1, h2⟩, h3⟩, h4⟩, h5⟩ := h
 have hagg : i.agg = true → ∃ fs : Array Go.Field, P.underlying t = some (.struct fs) ∧ (fs.toList.mapM (fun f => (P.info? f.type).map fun i => (f.offset, i.size))).isSome = true ∧ (!i.ty.eqB || (eqFB P 0 fs.toList i.ty && !(P.eqGuardType P.depth t))) = true ∧ P.stoodInHeld t = false ∧ fieldsB fs.toList i.fields = true := fun ha => by
  rw [ha] at h5
  simp only at h5
  split at h5
  ·rename_i fs hu
   simp only [Bool.and_eq_true, Bool.not_eq_true'] at h5
   obtain ⟨⟨⟨a1, a2⟩, a3⟩, a4⟩ := h5
   exact ⟨fs, hu, a1, a2, a3, a4⟩
  ·cases h5
 refine ⟨?_, fun ha => ?_, Nat.eq_of_beq_eq_true h3, Nat.le_of_ble_eq_true h4, fun ha => ?_, fun ha he => ?_, fun ha he => ?_, ?_⟩
 ·split at h1
  ·rename_i inf hi
   simp only [Bool.and_eq_true] at h1
   obtain ⟨⟨g1, g2⟩, g3⟩ := h1
   split at g3
   ·rename_i z hz
    simp only [Bool.and_eq_true] at g3
    obtain ⟨⟨k1, k2⟩, k3⟩ := g3
    refine ⟨inf, z, hi, Nat.eq_of_beq_eq_true g1, Nat.eq_of_beq_eq_true g2, hz, ?_, zreps_of k2⟩
    have k1 : aggB z = i.agg := by simpa using k1
    rw [← k1]
    cases z <;> first | rfl | simp [aggB, IsV, Value.cells]
   ·cases g3
  ·cases h1
 ·rw [ha] at h2; simpa using h2
 ·obtain ⟨fs, a1, a2, _⟩ := hagg ha
  obtain ⟨pl, hp⟩ := Option.isSome_iff_exists.1 a2
  exact ⟨fs, pl, a1, hp⟩
 ·obtain ⟨fs, a1, _, a3, _⟩ := hagg ha
  rw [he] at a3
  simp only [Bool.not_true, Bool.false_or, Bool.and_eq_true] at a3
  exact ⟨fs, a1, eqF_of a3.1⟩
 ·obtain ⟨fs, a1, _, a3, _⟩ := hagg ha
  rw [he] at a3
  simp only [Bool.not_true, Bool.false_or, Bool.and_eq_true] at a3
  simpa using a3.2
 ·cases ha : i.agg with
  | true =>
   obtain ⟨fs, a1, _, _, a4, a5⟩ := hagg ha
   obtain ⟨f1, f2⟩ := fields_of a5
   exact ⟨fs, a1, a4, fun f o ft hf => by obtain ⟨fd, q1, q2⟩ := f2 f o ft hf; exact ⟨fd, by simpa using q1, q2⟩, by simpa using f1⟩
  | false =>
   rw [ha] at h5
   simp only at h5
   split at h5
   ·rename_i d hu
    simp only [Bool.and_eq_true] at h5
    exact ⟨d, hu, h5.1, descFits_of h5.2⟩
   ·cases h5
def tabOkB (P : Program) (l : List (Nat × Option TI)) : Bool := l.all fun p => match p.2 with | some i => rowOkB P p.1 i | none => true
theorem tabOk_of {l : List (Nat × Option TI)} (h : tabOkB P l = true) : TabOk P (ofL none l) := by
 intro t i hi
 induction l with
 | nil => cases hi
 | cons p l ih =>
  unfold tabOkB at h
  rw [List.all_cons, Bool.and_eq_true] at h
  obtain ⟨k, x⟩ := p
  rw [ofL_cons] at hi
  by_cases hk : t = k
  ·subst hk
   rw [upd_same] at hi
   subst hi
   exact rowOk_of h.1
  ·rw [upd_other _ _ hk] at hi
   exact ih h.2 hi
end
end Go.Proofs.Ytadhpgecilhgnaa.A

-- YtadhpgecilhgnaaLw
set_option linter.unusedVariables false
set_option linter.unusedSimpArgs false
namespace Go.Proofs.Ytadhpgecilhgnaa.A
open Go
section
variable {P : Program} {tab : Nat → Option TI}
theorem TOk.nil : TOk P (ofL none []) := fun _ _ h => by cases h
theorem TOk.cons {f : Nat} {F : FunE} {l : List (Nat × Option FunE)} (h : FunC P f F) (hl : TOk P (ofL none l)) : TOk P (ofL none ((f, some F) :: l)) := by
 intro g G hg
 rw [ofL_cons] at hg
 by_cases e : g = f
 ·subst e
  rw [upd_same] at hg
  cases hg
  exact h
 ·rw [upd_other _ _ e] at hg
  exact hl g G hg
theorem funC_of (hm : P.follows .mixedOrders = true) (hT : TabOk P tab) {f : FuncId} {fn : Func} (hf : P.funcs[f]? = some fn) {T : Nat → Nat → Option FunE} {ann : Nat → Option (List Keep)} {ins : List (Bool × Ty)} {outs : List Ty} {n : Nat} (hC : ∀ k, TOk P (T k)) (hk : fnOkB fn ins = true) (hn : (fn.name == "runtime.NumGoroutine") = false) : FunC P f (fnE tab T ann fn ins outs n) := by
 refine ⟨fun _ => fnE_ok hm hT hf (fun k _ => way_ok hT (hC k)) hk, fun _ _ h => (by cases h), fn, hf, hn, ?_⟩
 simp only [fnOkB, Bool.and_eq_true] at hk
 have := hk.1.1.2
 cases hb : fn.body with
 | none => rw [hb] at this; cases this
 | some _ => rfl
theorem FunC.spec {f : FuncId} {ins : List (Bool × Ty)} {outs : List Ty} {F : Nat → (ins.foldr (fun p t => Ty.pair p.2 t) .unit).den → Option ((outs ++ (ins.filter (·.1)).map (·.2)).foldr Ty.pair .unit).den} {g : (ins.foldr (fun p t => Ty.pair p.2 t) .unit).den → Option ((outs ++ (ins.filter (·.1)).map (·.2)).foldr Ty.pair .unit).den}
 (hF : ∀ n, FunC P f { ins := ins, outs := outs, f := F n }) (h : ∀ x r, g x = some r → ∃ n, F n x = some r) : FunC P f { ins := ins, outs := outs, f := g } := by
 refine ⟨fun _ Z w xs vs Fs r h1 h2 h3 h4 h5 => ?_, fun _ _ h => (by cases h), (hF 0).en⟩
 obtain ⟨n, hn⟩ := h xs r h5
 exact ((hF n).ok' rfl Z w xs vs Fs r h1 h2 h3 h4 hn).mono fun e w' ⟨v, Z', us, Fr, Fi, he, p⟩ => ⟨v, Z', us, Fr, Fi, he, ⟨p.kp, p.zs, p.zl, p.zi, p.res, p.v, p.io, p.nd, p.nz⟩⟩
theorem law_end {Z : Nat → Prop} {w w' : World} {F : FunE} {vs us : List Value} {v : Value} {Z' : Nat → Prop} {Fr Fi : List Nat} {r : ((F.outs ++ (F.ins.filter (·.1)).map (·.2)).foldr Ty.pair .unit).den} (p : Post Z w [] F vs r v w' Z' us Fr Fi) {τs : List Ty} (ho : F.outs = [.bool]) {b : Bool} (hb : ResL Z' w' F.outs (splitRes F.outs _ r).1 us Fr → ResL Z' w' [.bool] (b, ()) us Fr) :
 v = .bool b ∧ RowKit.Below w.heap.size w w' := by
 refine ⟨?_, p.kp.os, p.kp.tape, p.kp.output, p.kp.size, fun k hk => p.kp.block k hk (by simp)⟩
 obtain ⟨u, us', F1, F2, e1, e2, ⟨cs, e3, e4⟩, e5, e6⟩ := hb p.res
 have e3 : cs = [u] := e3
 subst e3
 obtain ⟨e7, _⟩ := e4
 rw [p.v, e1, e5]
 simpa [tupOf] using e7
end
end Go.Proofs.Ytadhpgecilhgnaa.A

-- YtadhpgecilhgnaaShelf
namespace Go.Proofs
open Go.Shelf
def Try.lays109_ren : Go.Shelf.Ren := ⟨fun | 109 => 64 | n => n, fun | 31 => 22 | 9 => 9 | 3 => 3 | 0 => 0 | 4 => 4 | n => n, fun | n => n⟩
theorem Try.lays109 : Go.Proofs.Lays.n109 Try.prog Try.lays109_ren := {
 mixed := by kernel_rfl
 f109 := Try.func64.trans (congrArg some (by kernel_rfl))
 t0 := Try.underlying0
 a0 := Try.isAgg0
 z0 := Try.sizeOf0
 v0 := Try.zeroValue0
 t3 := Try.underlying3
 a3 := Try.isAgg3
 z3 := Try.sizeOf3
 v3 := Try.zeroValue3
 t4 := Try.underlying4
 a4 := Try.isAgg4
 z4 := Try.sizeOf4
 v4 := Try.zeroValue4
 t9 := Try.underlying9
 a9 := Try.isAgg9
 z9 := Try.sizeOf9
 v9 := Try.zeroValue9
 t31 := Try.underlying22
 a31 := Try.isAgg22
 z31 := Try.sizeOf22
 v31 := Try.zeroValue22 }
open Go.Lib in
theorem Try.slices_Index_string (b off n c : Nat) (zs : List ByteArray) (x : ByteArray) (w : World) (hz : n ≤ zs.length) (hbig : n ≤ 9223372036854775807) (hc : ∀ j, j < zs.length → w.cell? ⟨b, off + j, none⟩ = some (.string (zs.getD j ByteArray.empty))) :
 Calls Try.prog 64 #[.slice (some ⟨b, off, none⟩) n c, .string x] w fun e w' => e = .returned (.int .i64 (Lib.idxOfS (zs.take n) x)) ∧ w' = w := Any.slices_Index_string Try.lays109 b off n c zs x w hz hbig hc
def Try.lays110_ren : Go.Shelf.Ren := ⟨fun | 110 => 30 | 109 => 64 | n => n, fun | 31 => 22 | 9 => 9 | 4 => 4 | 3 => 3 | 0 => 0 | n => n, fun | n => n⟩
theorem Try.lays110 : Go.Proofs.Lays.n110 Try.prog Try.lays110_ren := {
 mixed := by kernel_rfl
 f109 := Try.func64.trans (congrArg some (by kernel_rfl))
 f110 := Try.func30.trans (congrArg some (by kernel_rfl))
 t0 := Try.underlying0
 a0 := Try.isAgg0
 z0 := Try.sizeOf0
 v0 := Try.zeroValue0
 t3 := Try.underlying3
 a3 := Try.isAgg3
 z3 := Try.sizeOf3
 v3 := Try.zeroValue3
 t4 := Try.underlying4
 a4 := Try.isAgg4
 z4 := Try.sizeOf4
 v4 := Try.zeroValue4
 t9 := Try.underlying9
 a9 := Try.isAgg9
 z9 := Try.sizeOf9
 v9 := Try.zeroValue9
 t31 := Try.underlying22
 a31 := Try.isAgg22
 z31 := Try.sizeOf22
 v31 := Try.zeroValue22 }
open Go.Lib in
theorem Try.slices_Contains_string (b off n c : Nat) (zs : List ByteArray) (x : ByteArray) (w : World) (hz : n ≤ zs.length) (hbig : n ≤ 9223372036854775807) (hc : ∀ j, j < zs.length → w.cell? ⟨b, off + j, none⟩ = some (.string (zs.getD j ByteArray.empty))) :
 Calls Try.prog 30 #[.slice (some ⟨b, off, none⟩) n c, .string x] w fun e w' => e = .returned (.bool (Lib.containsS (zs.take n) x)) ∧ w' = w := Any.slices_Contains_string Try.lays110 b off n c zs x w hz hbig hc
end Go.Proofs

-- YtadhpgecilhgnaaSs
set_option linter.unusedVariables false
set_option linter.unusedSimpArgs false
namespace Go.Proofs.Ytadhpgecilhgnaa.A
open Go Go.Sort
section
variable {P : Program} {w w' : World} {Z : Nat → Prop}

end
end Go.Proofs.Ytadhpgecilhgnaa.A

-- YtadhpgecilhgnaaK
set_option linter.unusedVariables false
set_option maxRecDepth 100000
namespace Go.Proofs.Ytadhpgecilhgnaa.A
open Go
theorem follows : Try.prog.follows .mixedOrders = true := by kernel_rfl
theorem tab_ok : TabOk Try.prog tab := tabOk_of (by kernel_rfl)
theorem slices_Index_string.ok (n : Nat) : FunC Try.prog 64 (slices_Index_string.E n) := funC_of follows tab_ok Try.func64 (T := slices_Index_string.T) (ann := slices_Index_string.ann) (ins := slices_Index_string.ins) (outs := slices_Index_string.outs) (n := n) (fun k => TOk.nil) (by kernel_rfl) (by kernel_rfl)
theorem slices_Contains_string.ok (n : Nat) : FunC Try.prog 30 (slices_Contains_string.E n) := funC_of follows tab_ok Try.func30 (T := slices_Contains_string.T) (ann := slices_Contains_string.ann) (ins := slices_Contains_string.ins) (outs := slices_Contains_string.outs) (n := n) (fun k => TOk.cons (slices_Index_string.ok k) (TOk.nil)) (by kernel_rfl) (by kernel_rfl)
theorem monitor_IsName.ok (n : Nat) : FunC Try.prog 59 (monitor_IsName.E n) := funC_of follows tab_ok Try.func59 (T := monitor_IsName.T) (ann := monitor_IsName.ann) (ins := monitor_IsName.ins) (outs := monitor_IsName.outs) (n := n) (fun k => TOk.nil) (by kernel_rfl) (by kernel_rfl)
theorem monitor_checkModes.ok (n : Nat) : FunC Try.prog 51 (monitor_checkModes.E n) := funC_of follows tab_ok Try.func51 (T := monitor_checkModes.T) (ann := monitor_checkModes.ann) (ins := monitor_checkModes.ins) (outs := monitor_checkModes.outs) (n := n) (fun k => TOk.cons (slices_Contains_string.ok k) (TOk.cons (monitor_IsName.ok k) (TOk.nil))) (by kernel_rfl) (by kernel_rfl)
theorem kit_In.ok (n : Nat) : FunC Try.prog 58 (kit_In.E n) := funC_of follows tab_ok Try.func58 (T := kit_In.T) (ann := kit_In.ann) (ins := kit_In.ins) (outs := kit_In.outs) (n := n) (fun k => TOk.nil) (by kernel_rfl) (by kernel_rfl)
theorem monitor_checkRule.ok (n : Nat) : FunC Try.prog 52 (monitor_checkRule.E n) := funC_of follows tab_ok Try.func52 (T := monitor_checkRule.T) (ann := monitor_checkRule.ann) (ins := monitor_checkRule.ins) (outs := monitor_checkRule.outs) (n := n) (fun k => TOk.cons (slices_Contains_string.ok k) (TOk.cons (kit_In.ok k) (TOk.cons (monitor_IsName.ok k) (TOk.nil)))) (by kernel_rfl) (by kernel_rfl)
theorem monitor_CheckWatch.ok (n : Nat) : FunC Try.prog 19 (monitor_CheckWatch.E n) := funC_of follows tab_ok Try.func19 (T := monitor_CheckWatch.T) (ann := monitor_CheckWatch.ann) (ins := monitor_CheckWatch.ins) (outs := monitor_CheckWatch.outs) (n := n) (fun k => TOk.cons (monitor_checkModes.ok k) (TOk.cons (monitor_checkRule.ok k) (TOk.nil))) (by kernel_rfl) (by kernel_rfl)
theorem monitor_raises.ok (n : Nat) : FunC Try.prog 76 (monitor_raises.E n) := funC_of follows tab_ok Try.func76 (T := monitor_raises.T) (ann := monitor_raises.ann) (ins := monitor_raises.ins) (outs := monitor_raises.outs) (n := n) (fun k => TOk.nil) (by kernel_rfl) (by kernel_rfl)
theorem monitor_sets.ok (n : Nat) : FunC Try.prog 42 (monitor_sets.E n) := funC_of follows tab_ok Try.func42 (T := monitor_sets.T) (ann := monitor_sets.ann) (ins := monitor_sets.ins) (outs := monitor_sets.outs) (n := n) (fun k => TOk.cons (monitor_raises.ok k) (TOk.nil)) (by kernel_rfl) (by kernel_rfl)
theorem monitor_ring.ok (n : Nat) : FunC Try.prog 43 (monitor_ring.E n) := funC_of follows tab_ok Try.func43 (T := monitor_ring.T) (ann := monitor_ring.ann) (ins := monitor_ring.ins) (outs := monitor_ring.outs) (n := n) (fun k => TOk.nil) (by kernel_rfl) (by kernel_rfl)
theorem monitor_Loops.ok (n : Nat) : FunC Try.prog 13 (monitor_Loops.E n) := funC_of follows tab_ok Try.func13 (T := monitor_Loops.T) (ann := monitor_Loops.ann) (ins := monitor_Loops.ins) (outs := monitor_Loops.outs) (n := n) (fun k => TOk.cons (monitor_CheckWatch.ok k) (TOk.cons (monitor_sets.ok k) (TOk.cons (monitor_ring.ok k) (TOk.nil)))) (by kernel_rfl) (by kernel_rfl)
theorem kit_First.ok (n : Nat) : FunC Try.prog 46 (kit_First.E n) := funC_of follows tab_ok Try.func46 (T := kit_First.T) (ann := kit_First.ann) (ins := kit_First.ins) (outs := kit_First.outs) (n := n) (fun k => TOk.nil) (by kernel_rfl) (by kernel_rfl)
theorem monitor_CheckLimits.ok (n : Nat) : FunC Try.prog 77 (monitor_CheckLimits.E n) := funC_of follows tab_ok Try.func77 (T := monitor_CheckLimits.T) (ann := monitor_CheckLimits.ann) (ins := monitor_CheckLimits.ins) (outs := monitor_CheckLimits.outs) (n := n) (fun k => TOk.cons (kit_In.ok k) (TOk.cons (monitor_IsName.ok k) (TOk.nil))) (by kernel_rfl) (by kernel_rfl)
theorem kit_Range.ok (n : Nat) : FunC Try.prog 78 (kit_Range.E n) := funC_of follows tab_ok Try.func78 (T := kit_Range.T) (ann := kit_Range.ann) (ins := kit_Range.ins) (outs := kit_Range.outs) (n := n) (fun k => TOk.cons (kit_In.ok k) (TOk.nil)) (by kernel_rfl) (by kernel_rfl)
theorem monitor_state.ok (n : Nat) : FunC Try.prog 79 (monitor_state.E n) := funC_of follows tab_ok Try.func79 (T := monitor_state.T) (ann := monitor_state.ann) (ins := monitor_state.ins) (outs := monitor_state.outs) (n := n) (fun k => TOk.nil) (by kernel_rfl) (by kernel_rfl)
theorem monitor_StateOf.ok (n : Nat) : FunC Try.prog 44 (monitor_StateOf.E n) := funC_of follows tab_ok Try.func44 (T := monitor_StateOf.T) (ann := monitor_StateOf.ann) (ins := monitor_StateOf.ins) (outs := monitor_StateOf.outs) (n := n) (fun k => TOk.cons (kit_First.ok k) (TOk.cons (monitor_CheckLimits.ok k) (TOk.cons (kit_Range.ok k) (TOk.cons (monitor_state.ok k) (TOk.nil))))) (by kernel_rfl) (by kernel_rfl)
theorem perigeelaw8_awake.ok (n : Nat) : FunC Try.prog 14 (perigeelaw8_awake.E n) := funC_of follows tab_ok Try.func14 (T := perigeelaw8_awake.T) (ann := perigeelaw8_awake.ann) (ins := perigeelaw8_awake.ins) (outs := perigeelaw8_awake.outs) (n := n) (fun k => TOk.cons (monitor_StateOf.ok k) (TOk.nil)) (by kernel_rfl) (by kernel_rfl)
theorem perigeelaw8_ruleOf.ok (n : Nat) : FunC Try.prog 15 (perigeelaw8_ruleOf.E n) := funC_of follows tab_ok Try.func15 (T := perigeelaw8_ruleOf.T) (ann := perigeelaw8_ruleOf.ann) (ins := perigeelaw8_ruleOf.ins) (outs := perigeelaw8_ruleOf.outs) (n := n) (fun k => TOk.nil) (by kernel_rfl) (by kernel_rfl)
theorem slices_Index_apiAct.ok (n : Nat) : FunC Try.prog 45 (slices_Index_apiAct.E n) := funC_of follows tab_ok Try.func45 (T := slices_Index_apiAct.T) (ann := slices_Index_apiAct.ann) (ins := slices_Index_apiAct.ins) (outs := slices_Index_apiAct.outs) (n := n) (fun k => TOk.nil) (by kernel_rfl) (by kernel_rfl)
theorem slices_Contains_apiAct.ok (n : Nat) : FunC Try.prog 16 (slices_Contains_apiAct.E n) := funC_of follows tab_ok Try.func16 (T := slices_Contains_apiAct.T) (ann := slices_Contains_apiAct.ann) (ins := slices_Contains_apiAct.ins) (outs := slices_Contains_apiAct.outs) (n := n) (fun k => TOk.cons (slices_Index_apiAct.ok k) (TOk.nil)) (by kernel_rfl) (by kernel_rfl)
theorem perigeelaw8_WatchesLoopsAreRings.ok (n : Nat) : FunC Try.prog 3 (perigeelaw8_WatchesLoopsAreRings.E n) := funC_of follows tab_ok Try.func3 (T := perigeelaw8_WatchesLoopsAreRings.T) (ann := perigeelaw8_WatchesLoopsAreRings.ann) (ins := perigeelaw8_WatchesLoopsAreRings.ins) (outs := perigeelaw8_WatchesLoopsAreRings.outs) (n := n) (fun k => TOk.cons (monitor_Loops.ok k) (TOk.cons (perigeelaw8_awake.ok k) (TOk.cons (perigeelaw8_ruleOf.ok k) (TOk.cons (slices_Contains_apiAct.ok k) (TOk.nil))))) (by kernel_rfl) (by kernel_rfl)
end Go.Proofs.Ytadhpgecilhgnaa.A

-- YtadhpgecilhgnaaPk
set_option linter.unusedVariables false
set_option linter.unusedSimpArgs false
namespace Go.Proofs.Ytadhpgecilhgnaa.Pure
open Go Go.Proofs.Ytadhpgecilhgnaa.A

def Ev {α : Type} (g : Nat → Option α) (r : α) : Prop := ∃ k, ∀ n, k ≤ n → g n = some r
theorem Ev.now {α : Type} (r : α) : Ev (fun _ => some r) r := ⟨0, fun _ _ => rfl⟩
theorem Ev.rounds {α : Type} {g : Nat → Option α} {r : α} (h : Ev g r) : ∃ k, g k = some r := let ⟨K, h⟩ := h; ⟨K, h K (Nat.le_refl _)⟩
theorem Ev.bind {α β : Type} {g : Nat → Option α} {f : Nat → α → Option β} {a : α} {r : β} (h : Ev g a) (k : Ev (fun n => f n a) r) : Ev (fun n => (g n).bind (f n)) r := by
 obtain ⟨K, h⟩ := h
 obtain ⟨K', k⟩ := k
 refine ⟨max K K', fun n hn => ?_⟩
 simp only [h n (by omega), Option.bind_some]
 exact k n (by omega)
theorem Ev.step {α : Type} {g f : Nat → Option α} {r : α} (h : ∀ k, g (k + 1) = f k) (k : Ev f r) : Ev g r := by
 obtain ⟨K, k⟩ := k
 refine ⟨K + 1, fun n hn => ?_⟩
 obtain ⟨m, rfl⟩ : ∃ m, n = m + 1 := ⟨n - 1, by omega⟩
 rw [h]
 exact k m (by omega)
theorem Ev.eq {α : Type} {g f : Nat → Option α} {r : α} (h : ∀ k, g k = f k) (k : Ev f r) : Ev g r := by
 obtain ⟨K, k⟩ := k
 exact ⟨K, fun n hn => (h n).trans (k n hn)⟩
theorem less_total : ∀ a b : List UInt8, (Op.bytesLess a b || a == b) = !Op.bytesLess b a := by
 intro a
 induction a with
 | nil => intro b; cases b <;> simp [Op.bytesLess]
 | cons x a ih =>
  intro b
  cases b with
  | nil => simp [Op.bytesLess]
  | cons y b =>
   have := ih b
   have e1 : Op.bytesLess (x :: a) (y :: b) = (decide (x < y) || (x == y && Op.bytesLess a b)) := by rw [Op.bytesLess]
   have e2 : Op.bytesLess (y :: b) (x :: a) = (decide (y < x) || (y == x && Op.bytesLess b a)) := by rw [Op.bytesLess]
   rw [e1, e2]
   rcases Nat.lt_trichotomy x.toNat y.toNat with h | h | h
   ·have h1 : x < y := UInt8.lt_iff_toNat_lt.2 h
    have h2 : ¬ y < x := fun h' => by have := UInt8.lt_iff_toNat_lt.1 h'; omega
    have h3 : ¬ y = x := fun h' => by subst h'; omega
    simp [h1, h2, h3]
   ·have h3 : x = y := UInt8.toNat_inj.1 h
    subst h3
    have h2 : ¬ x < x := fun h' => by have := UInt8.lt_iff_toNat_lt.1 h'; omega
    simpa [h2] using this
   ·have h1 : y < x := UInt8.lt_iff_toNat_lt.2 h
    have h2 : ¬ x < y := fun h' => by have := UInt8.lt_iff_toNat_lt.1 h'; omega
    have h3 : ¬ x = y := fun h' => by subst h'; omega
    simp [h1, h2, h3]

theorem w64 {x : Int} (h : -9223372036854775808 ≤ x) (h' : x ≤ 9223372036854775807) : IntKind.wrap .i64 x = x := by
 have e1 : (2 : Int) ^ 64 = 18446744073709551616 := rfl
 have e2 : (2 : Int) ^ (64 - 1) = 9223372036854775808 := rfl
 simp only [IntKind.wrap, IntKind.bits, IntKind.signed, e1, e2, Bool.true_and, decide_eq_true_eq]
 by_cases hh : x % 18446744073709551616 ≥ 9223372036854775808
 ·rw [if_pos hh]; omega
 ·rw [if_neg hh]; omega
theorem Ev.yes {α : Type} {c : Prop} {hd : Decidable c} {g g' : Nat → Option α} {r : α} (h : c) (e : Ev g r) : Ev (fun k => if c then g k else g' k) r := by
 simp only [if_pos h]; exact e
theorem Ev.no {α : Type} {c : Prop} {hd : Decidable c} {g g' : Nat → Option α} {r : α} (h : ¬ c) (e : Ev g' r) : Ev (fun k => if c then g k else g' k) r := by
 simp only [if_neg h]; exact e
theorem Ev.unique {α : Type} {g : Nat → Option α} {r s : α} (h : Ev g r) (h' : Ev g s) : r = s := by
 obtain ⟨K, h⟩ := h
 obtain ⟨K', h'⟩ := h'
 have h1 := h (max K K') (by omega)
 have h2 := h' (max K K') (by omega)
 rw [h1] at h2
 injection h2
theorem Ev.some {α : Type} {o : Option α} {r : α} (h : o = some r) : Ev (fun _ => o) r := by subst h; exact Ev.now _

theorem getD_nat {α : Type} (z : α) (l : List α) (i : Nat) (h : i < l.length) : l.getD i z = l[i] := by
 simp [List.getD_eq_getElem?_getD, List.getElem?_eq_getElem h]
theorem getD_mem {α : Type} {z : α} {l : List α} {i : Nat} (h : i < l.length) : l.getD i z ∈ l := by
 rw [getD_nat z l i h]; exact List.getElem_mem h

theorem bl_cons (x y : UInt8) (a b : List UInt8) : Op.bytesLess (x :: a) (y :: b) = (decide (x < y) || (x == y && Op.bytesLess a b)) := by rw [Op.bytesLess]
theorem less_irrefl (a : List UInt8) : Op.bytesLess a a = false := by
 have := less_total a a
 cases h : Op.bytesLess a a with
 | false => rfl
 | true => rw [h] at this; simp at this
theorem less_asymm {a b : List UInt8} (h : Op.bytesLess a b = true) : Op.bytesLess b a = false := by
 have := less_total a b
 rw [h] at this
 simpa using this.symm
theorem less_ne {a b : List UInt8} (h : Op.bytesLess a b = true) : a ≠ b := by
 intro e
 subst e
 rw [less_irrefl] at h
 cases h
theorem less_trans : ∀ {a b c : List UInt8}, Op.bytesLess a b = true → Op.bytesLess b c = true → Op.bytesLess a c = true := by
 intro a
 induction a with
 | nil =>
  intro b c h1 h2
  cases b with
  | nil => simp [Op.bytesLess] at h1
  | cons y b =>
   cases c with
   | nil => simp [Op.bytesLess] at h2
   | cons z c => simp [Op.bytesLess]
 | cons x a ih =>
  intro b c h1 h2
  cases b with
  | nil => simp [Op.bytesLess] at h1
  | cons y b =>
   cases c with
   | nil => simp [Op.bytesLess] at h2
   | cons z c =>
    rw [bl_cons] at h1 h2 ⊢
    simp only [Bool.or_eq_true, Bool.and_eq_true, decide_eq_true_eq, beq_iff_eq] at h1 h2 ⊢
    rcases h1 with h1 | ⟨rfl, h1⟩
    ·rcases h2 with h2 | ⟨rfl, h2⟩
     ·left
      have := UInt8.lt_iff_toNat_lt.1 h1
      have := UInt8.lt_iff_toNat_lt.1 h2
      exact UInt8.lt_iff_toNat_lt.2 (by omega)
     ·exact .inl h1
    ·rcases h2 with h2 | ⟨rfl, h2⟩
     ·exact .inl h2
     ·exact .inr ⟨rfl, ih h1 h2⟩
def Twin {α β : Type} (g : Nat → Option α) (g' : Nat → Option β) (R : α → β → Prop) : Prop := ∃ a b, Ev g a ∧ Ev g' b ∧ R a b
section
variable {α β γ δ : Type} {R : α → β → Prop}
theorem Twin.of {g : Nat → Option α} {g' : Nat → Option β} {a : α} {b : β} (h : Ev g a) (h' : Ev g' b) (r : R a b) : Twin g g' R := ⟨a, b, h, h', r⟩
theorem Twin.now {a : α} {b : β} (r : R a b) : Twin (fun _ => some a) (fun _ => some b) R := ⟨a, b, Ev.now _, Ev.now _, r⟩
theorem Twin.mono {g : Nat → Option α} {g' : Nat → Option β} {S : α → β → Prop} (h : Twin g g' S) (k : ∀ a b, S a b → R a b) : Twin g g' R := by
 obtain ⟨a, b, h1, h2, h3⟩ := h
 exact ⟨a, b, h1, h2, k a b h3⟩
theorem Twin.bind {g : Nat → Option γ} {g' : Nat → Option δ} {S : γ → δ → Prop} {f : Nat → γ → Option α} {f' : Nat → δ → Option β} (t : Twin g g' S) (k : ∀ a b, S a b → Twin (fun n => f n a) (fun n => f' n b) R) :
 Twin (fun n => (g n).bind (f n)) (fun n => (g' n).bind (f' n)) R := by
 obtain ⟨a, b, h1, h2, h3⟩ := t
 obtain ⟨a', b', h1', h2', h3'⟩ := k a b h3
 exact ⟨a', b', Ev.bind h1 h1', Ev.bind h2 h2', h3'⟩
theorem Twin.right {g : Nat → Option α} {g' : Nat → Option β} (t : Twin g g' R) : ∃ b, Ev g' b := by
 obtain ⟨a, b, h1, h2, h3⟩ := t
 exact ⟨b, h2⟩
theorem Ev.split {c : Prop} {hd : Decidable c} {g f : Nat → Option α} {r : α} (y : c → Ev g r) (n : ¬ c → Ev f r) : Ev (fun k => if c then g k else f k) r := by
 by_cases h : c
 ·simp only [if_pos h]; exact y h
 ·simp only [if_neg h]; exact n h
theorem Ev.is {v r : α} (h : v = r) : Ev (fun _ => Option.some v) r := by subst h; exact Ev.now _
end
end Go.Proofs.Ytadhpgecilhgnaa.Pure

-- YtadhpgecilhgnaaLp
set_option linter.unusedVariables false
set_option linter.unusedSimpArgs false
namespace Go.Proofs.Ytadhpgecilhgnaa.Pure
open Go Go.Proofs.Ytadhpgecilhgnaa.A

theorem Ev.rng {α β σ : Type} (z : α) (l : List α) (hl : l.length ≤ 4611686018427387904) {g : Nat → σ → Int → Option β} {B : Nat → σ → Int → Option β} {E : Nat → σ → Option β}
 (hg : ∀ k s i, g (k + 1) s i = if decide (i < (l.length : Int)) = true then (if (0 : Int) ≤ i ∧ i < (l.length : Int) then B k s i else none) else E k s)
 (Inv : Nat → σ → Prop) (spec : List α → Nat → σ → β)
 (hfin : ∀ s, Inv l.length s → Ev (fun k => E k s) (spec [] l.length s))
 (hstep : ∀ (i : Nat) (x : α) (xs : List α) (s : σ), i < l.length → x ∈ l → l.drop i = x :: xs → l.getD i z = x → IntKind.wrap .i64 ((i : Int) + 1) = (i : Int) + 1 → Inv i s →
  (∀ s', Inv (i + 1) s' → Ev (fun k => g k s' ((i : Int) + 1)) (spec xs (i + 1) s')) → Ev (fun k => B k s i) (spec (x :: xs) i s)) :
 ∀ (i : Nat) (s : σ), i ≤ l.length → Inv i s → Ev (fun k => g k s i) (spec (l.drop i) i s) := by
 have loop : ∀ (d i : Nat) (s : σ), i + d = l.length → Inv i s → Ev (fun k => g k s i) (spec (l.drop i) i s) := by
  intro d
  induction d with
  | zero =>
   intro i s hi hs
   have : i = l.length := by omega
   subst this
   refine Ev.step (fun k => hg k s _) ?_
   refine Ev.no (by simp) ?_
   rw [List.drop_length]
   exact hfin s hs
  | succ d ih =>
   intro i s hi hs
   refine Ev.step (fun k => hg k s _) ?_
   refine Ev.yes (by simp; omega) (Ev.yes (by omega) ?_)
   rw [List.drop_eq_getElem_cons (show i < l.length by omega)]
   refine hstep i _ _ s (by omega) (List.getElem_mem _) (List.drop_eq_getElem_cons (by omega)) (getD_nat z l i (by omega)) (w64 (by omega) (by omega)) hs fun s' hs' => ?_
   have := ih (i + 1) s' (by omega) hs'
   rw [show ((i + 1 : Nat) : Int) = (i : Int) + 1 by omega] at this
   exact this
 exact fun i s hi hs => loop (l.length - i) i s (by omega) hs
theorem Ev.rngR {α β σ : Type} (z : α) (l : List α) (hl : l.length ≤ 4611686018427387904) {g : Nat → σ → Int → Option β} {B : Nat → σ → Int → Option β} {E : Nat → σ → Option β}
 (hg : ∀ k s i, g (k + 1) s i = if decide (i < (l.length : Int)) = true then (if (0 : Int) ≤ i ∧ i < (l.length : Int) then B k s i else none) else E k s)
 (Inv : Nat → σ → Prop) (Q : β → Prop)
 (hfin : ∀ s, Inv l.length s → ∃ r, Ev (fun k => E k s) r ∧ Q r)
 (hstep : ∀ (i : Nat) (x : α) (s : σ), i < l.length → x ∈ l → l[i]? = Option.some x → l.getD i z = x → IntKind.wrap .i64 ((i : Int) + 1) = (i : Int) + 1 → Inv i s →
  (∀ s', Inv (i + 1) s' → ∃ r, Ev (fun k => g k s' ((i : Int) + 1)) r ∧ Q r) → ∃ r, Ev (fun k => B k s i) r ∧ Q r) :
 ∀ (i : Nat) (s : σ), i ≤ l.length → Inv i s → ∃ r, Ev (fun k => g k s i) r ∧ Q r := by
 have loop : ∀ (d i : Nat) (s : σ), i + d = l.length → Inv i s → ∃ r, Ev (fun k => g k s i) r ∧ Q r := by
  intro d
  induction d with
  | zero =>
   intro i s hi hs
   have : i = l.length := by omega
   subst this
   obtain ⟨r, h1, h2⟩ := hfin s hs
   exact ⟨r, Ev.step (fun k => hg k s _) (Ev.no (by simp) h1), h2⟩
  | succ d ih =>
   intro i s hi hs
   have hs' := hstep i l[i] s (by omega) (List.getElem_mem _) (List.getElem?_eq_getElem (by omega)) (getD_nat z l i (by omega)) (w64 (by omega) (by omega)) hs fun s' hs' => by
    have := ih (i + 1) s' (by omega) hs'
    rw [show ((i + 1 : Nat) : Int) = (i : Int) + 1 by omega] at this
    exact this
   obtain ⟨r, h1, h2⟩ := hs'
   exact ⟨r, Ev.step (fun k => hg k s _) (Ev.yes (by simp; omega) (Ev.yes (by omega) h1)), h2⟩
 exact fun i s hi hs => loop (l.length - i) i s (by omega) hs
theorem Ev.cast {α : Type} {g : Nat → Option α} {a b : α} (h : a = b) (e : Ev g a) : Ev g b := h ▸ e

theorem eqV_iff : ∀ {τ : Ty}, τ.eqB = true → ∀ {x y : τ.den}, eqV τ x y = true ↔ x = y := by
 intro τ
 induction τ with
 | pair a b iha ihb =>
  intro h x y
  simp only [Ty.eqB, Bool.and_eq_true] at h
  simp only [eqV, Bool.and_eq_true, iha h.1, ihb h.2]
  exact ⟨fun h => Prod.ext h.1 h.2, fun h => by rw [h]; exact ⟨rfl, rfl⟩⟩
 | bool => intro _ x y; exact decide_eq_true_iff
 | int k => intro _ x y; exact decide_eq_true_iff
 | str => intro _ x y; exact decide_eq_true_iff
 | fmap k e _ _ => intro h; cases h
 | mapb k e _ _ => intro h; cases h
 | nsl e _ => intro h; simp [Ty.eqB] at h
 | unit => intro h; simp [Ty.eqB] at h
 | sl e _ => intro h; simp [Ty.eqB] at h
 | vec e _ => intro h; simp [Ty.eqB] at h
 | map k e _ _ => intro h; simp [Ty.eqB] at h
 | fnv f => intro h; simp [Ty.eqB] at h
 | nil => intro h; simp [Ty.eqB] at h
 | ptr e _ => intro h; simp [Ty.eqB] at h
theorem idx_loop {α : Type} [DecidableEq α] (z : α) (v : α) {e : α → Bool} (he : ∀ x, e x = true ↔ v = x) (l : List α) (hl : l.length ≤ 4611686018427387904) {g : Nat → Int → Option (Int × Unit)}
 (hg : ∀ k i, g (k + 1) i = if decide (i < (l.length : Int)) = true then (if (0 : Int) ≤ i ∧ i < (l.length : Int) then (if e (l.getD i.toNat z) = true then some (i, ()) else g k (IntKind.wrap .i64 (i + 1))) else none) else some (-1, ())) :
 ∃ n, Ev (fun k => g k 0) (n, ()) ∧ (0 ≤ n ↔ v ∈ l) := by
 have h := Ev.rng (σ := Unit) z l hl (g := fun k _ i => g k i) (fun k s i => hg k i)
  (fun _ _ => True) (fun r i _ => (if v ∈ r then ((i + r.idxOf v : Nat) : Int) else -1, ())) (fun _ _ => Ev.is (by simp)) (fun i x xs s hi hx _ hget hw _ next => by
   simp only [Int.toNat_natCast, hget, hw]
   refine Ev.split (fun h => ?_) (fun h => ?_)
   ·have h := (he _).1 h
    subst h
    refine Ev.is ?_
    simp
   ·refine Ev.cast ?_ (next () trivial)
    have h' : ¬ v = x := fun e => h ((he _).2 e)
    have h'' : ¬ x = v := fun e => h' e.symm
    by_cases hm : v ∈ xs
    ·rw [if_pos hm, if_pos (by simp [hm]), List.idxOf_cons, show (x == v) = false by simpa using h'']
     simp only [cond_false]
     congr 1; omega
    ·rw [if_neg hm, if_neg (by simp [hm, h'])]) 0 () (by omega) trivial
 refine ⟨_, h, ?_⟩
 simp only [List.drop_zero]
 split <;> rename_i hm
 ·exact ⟨fun _ => hm, fun _ => by omega⟩
 ·exact ⟨fun h => by omega, fun h => absurd h hm⟩
end Go.Proofs.Ytadhpgecilhgnaa.Pure

-- YtadhpgecilhgnaaQ1
set_option linter.unusedVariables false
set_option linter.unusedSimpArgs false
namespace Go.Proofs.Ytadhpgecilhgnaa.Pure
open Go Go.Proofs.Ytadhpgecilhgnaa.A

theorem in_ev (n : Nat) (a l h : Int) : kit_In.f n a l h = some (decide (l ≤ a ∧ a ≤ h), ()) := by
 rw [kit_In.f_eq]
 by_cases h1 : l ≤ a <;> simp [h1]
theorem name_ex (s : List UInt8) (hs : s.length ≤ 140737488351232) : ∃ b, Ev (fun k => monitor_IsName.f k s) (b, ()) ∧ (b = true → s.length ≤ 40) := by
 by_cases h0 : s = []
 ·exact ⟨false, Ev.eq (fun k => by rw [monitor_IsName.f_eq]) (Ev.yes (by simpa using h0) (Ev.now _)), fun h => by cases h⟩
 by_cases h1 : 40 < (s.length : Int)
 ·exact ⟨false, Ev.eq (fun k => by rw [monitor_IsName.f_eq]) (Ev.no (by simpa using h0) (Ev.yes (by simpa using h1) (Ev.now _))), fun h => by cases h⟩
 have h := Ev.rngR (σ := Unit) (0 : UInt8) s (by omega) (g := fun k _ i => monitor_IsName.c1 k s (s.length : Int) i) (fun k _ i => monitor_IsName.c1_eq _ _ _ _)
  (fun _ _ => True) (fun r : Bool × Unit => True) (fun _ _ => ⟨_, Ev.now _, trivial⟩) (fun i x _ hi hx _ hget hw _ next => by
   simp only [Int.toNat_natCast, hget, hw]
   obtain ⟨r, n1, _⟩ := next () trivial
   have key : ∀ {g : Nat → Option (Bool × Unit)}, (Ev g (false, ()) ∨ Ev g r) → ∃ r, Ev g r ∧ True := fun h => h.elim (fun h => ⟨_, h, trivial⟩) (fun h => ⟨_, h, trivial⟩)
   have sp : ∀ {c : Prop} {hd : Decidable c} {g f : Nat → Option (Bool × Unit)}, (Ev g (false, ()) ∨ Ev g r) → (Ev f (false, ()) ∨ Ev f r) → (Ev (fun k => if c then g k else f k) (false, ()) ∨ Ev (fun k => if c then g k else f k) r) := fun {c hd g f} y n => by
    by_cases h : c
    ·exact y.imp (fun y => Ev.yes h y) (fun y => Ev.yes h y)
    ·exact n.imp (fun n => Ev.no h n) (fun n => Ev.no h n)
   have F : Ev (fun _ : Nat => some (false, ())) (false, ()) ∨ Ev (fun _ : Nat => some (false, ())) r := .inl (Ev.now _)
   have N : Ev (fun k => monitor_IsName.c1 k s (s.length : Int) ((i : Int) + 1)) (false, ()) ∨ Ev (fun k => monitor_IsName.c1 k s (s.length : Int) ((i : Int) + 1)) r := .inr n1
   exact key (sp (sp F (sp (sp (sp F (sp F N)) N) N)) (sp (sp F (sp (sp (sp F (sp F N)) N) N)) N))) 0 () (by omega) trivial
 obtain ⟨⟨b, u⟩, h2, _⟩ := h
 have h2 : Ev (fun k => monitor_IsName.c1 k s (s.length : Int) 0) (b, u) := h2
 exact ⟨b, Ev.eq (fun k => by rw [monitor_IsName.f_eq]) (Ev.no (by simpa using h0) (Ev.no (by simpa using h1) (Ev.step (fun k => by rw [monitor_IsName.c0_eq]) h2))), fun _ => by omega⟩
open Classical in
noncomputable def isNm (s : List UInt8) : Bool := if Ev (fun k => monitor_IsName.f k s) (true, ()) then true else false
theorem name_ev (s : List UInt8) (hs : s.length ≤ 140737488351232) : Ev (fun k => monitor_IsName.f k s) (isNm s, ()) ∧ (isNm s = true → s.length ≤ 40) := by
 obtain ⟨b, h1, h2⟩ := name_ex s hs
 have : isNm s = b := by
  unfold isNm
  cases b with
  | true => rw [if_pos h1]
  | false =>
   rw [if_neg]
   intro h
   have := h.unique h1
   simp at this
 rw [this]
 exact ⟨h1, h2⟩

theorem awake_at (k : Nat) : perigeelaw8_awake.f (k + 40) = some (true, ()) := by kernel_rfl
theorem awake_ev : Ev (fun k => perigeelaw8_awake.f k) (true, ()) := ⟨40, fun n hn => by
 obtain ⟨k, rfl⟩ : ∃ k, n = k + 40 := ⟨n - 40, by omega⟩
 exact awake_at k⟩

theorem nm_ne {s : List UInt8} (h : isNm s = true) : s ≠ [] := by
 intro e
 subst e
 have h1 : Ev (fun k => monitor_IsName.f k []) (false, ()) := Ev.eq (fun k => monitor_IsName.f_eq _ _) (Ev.yes (by simp) (Ev.now _))
 have h2 := (name_ev [] (by simp)).1.unique h1
 rw [h] at h2
 cases h2
theorem contains_ev (s : List (List UInt8)) (v : List UInt8) (hl : s.length ≤ 4611686018427387904) : Ev (fun k => slices_Contains_string.f k s v) (decide (v ∈ s), ()) := by
 obtain ⟨n, h1, h2⟩ := idx_loop ([] : List UInt8) v (e := fun x => decide (v = x)) (fun x => by simp) s hl (g := fun k i => slices_Index_string.c0 k s v (s.length : Int) i) (fun k i => slices_Index_string.c0_eq _ _ _ _ _)
 refine Ev.eq (fun k => by rw [slices_Contains_string.f_eq]) (Ev.bind (Ev.eq (fun k => by rw [slices_Index_string.f_eq]) h1) (Ev.is ?_))
 rw [decide_eq_decide.2 h2]
def befC (b c : DModeChange) : Prop := lessS c.1 b.1 = false ∧ (c.1 = b.1 → lessS b.2.1 c.2.1 = true)
structure ModesOk (w : DWatch) : Prop where
 m0 : 1 ≤ w.1.length
 ml : w.1.length ≤ 50
 cl : w.2.1.length ≤ 500
 ch : ∀ c ∈ w.2.1, c.1 ∈ w.1 ∧ c.2.2 ∈ w.1
 od : ∀ j, j < w.2.1.length → 0 < j → befC (w.2.1.getD (j - 1) (Ty.dflt YModeChange)) (w.2.1.getD j (Ty.dflt YModeChange))
 md : w.2.2.1 ∈ w.1
 en : ∀ c ∈ w.2.1, c.2.1 ≠ []
 mo : ∀ j, j < w.1.length → 0 < j → lessS (w.1.getD (j - 1) []) (w.1.getD j []) = true
theorem changes_ev (w : DWatch) (h0 : okT YWatch w) (m0 : 1 ≤ w.1.length) (ml : w.1.length ≤ 50) (cl : w.2.1.length ≤ 500) (mo : ∀ j, j < w.1.length → 0 < j → lessS (w.1.getD (j - 1) []) (w.1.getD j []) = true) : ∃ r : Int × Unit, Ev (fun k => monitor_checkModes.c1 k w.1 w.2.1 w.2.2.1 w.2.2.2 w.2.1 (w.2.1.length : Int) 0) r ∧ (r.1 = 0 → ModesOk w) := by
 have hm := contains_ev w.1
 refine Ev.rngR (σ := Unit) (Ty.dflt YModeChange) w.2.1 (by omega) (g := fun k _ i => monitor_checkModes.c1 k w.1 w.2.1 w.2.2.1 w.2.2.2 w.2.1 (w.2.1.length : Int) i) (fun k _ i => monitor_checkModes.c1_eq _ _ _ _ _ _ _ _)
  (fun i _ => ∀ j, j < i → j < w.2.1.length → ((w.2.1.getD j (Ty.dflt YModeChange)).1 ∈ w.1 ∧ (w.2.1.getD j (Ty.dflt YModeChange)).2.2 ∈ w.1 ∧ (w.2.1.getD j (Ty.dflt YModeChange)).2.1 ≠ []) ∧ (0 < j → befC (w.2.1.getD (j - 1) (Ty.dflt YModeChange)) (w.2.1.getD j (Ty.dflt YModeChange))))
  (fun r => r.1 = 0 → ModesOk w) (fun _ hs => ?_) (fun i c _ hi hc hget hgd hw hs next => ?_) 0 () (by omega) (fun j hj => by omega)
 ·by_cases h : w.2.2.1 ∈ w.1
  ·refine ⟨_, Ev.bind (hm _ (by omega)) (Ev.no (by simp [h]) (Ev.now _)), fun _ => ⟨m0, ml, cl, fun c hc => ?_, fun j hj hj0 => (hs j hj hj).2 hj0, h, fun c hc => ?_, mo⟩⟩
   obtain ⟨j, hj, rfl⟩ := List.getElem_of_mem hc
   have := (hs j hj hj).1
   rw [getD_nat _ _ _ hj] at this
   exact ⟨this.1, this.2.1⟩
   obtain ⟨j, hj, rfl⟩ := List.getElem_of_mem hc
   have := (hs j hj hj).1
   rw [getD_nat _ _ _ hj] at this
   exact this.2.2
  ·exact ⟨_, Ev.bind (hm _ (by omega)) (Ev.yes (by simp [h]) (Ev.now _)), fun h => by cases h⟩
 ·simp only [Int.toNat_natCast, hgd, hw]
  have hce := (h0.2.1.2.2 c hc).2.1
  by_cases h1 : c.1 ∈ w.1
  case neg => exact ⟨_, Ev.bind (hm _ (by omega)) (Ev.yes (by simp [h1]) (Ev.now _)), fun h => by cases h⟩
  by_cases h2 : c.2.2 ∈ w.1
  case neg => exact ⟨_, Ev.bind (hm _ (by omega)) (Ev.no (by simp [h1]) (Ev.bind (hm _ (by omega)) (Ev.yes (by simp [h2]) (Ev.now _)))), fun h => by cases h⟩
  have pre : ∀ {r : Int × Unit}, Ev (fun k => monitor_checkModes.c2 k w.1 w.2.1 w.2.2.1 w.2.2.2 (i : Int) c.1 c.2.1 c.2.2 w.2.1 (w.2.1.length : Int) (i : Int)) r → Ev (fun k => (slices_Contains_string.f k w.1 c.1).bind fun r2 => if (!r2.1) = true then some (9, ()) else (slices_Contains_string.f k w.1 c.2.2).bind fun r3 => if (!r3.1) = true then some (9, ()) else monitor_checkModes.c2 k w.1 w.2.1 w.2.2.1 w.2.2.2 (i : Int) c.1 c.2.1 c.2.2 w.2.1 (w.2.1.length : Int) (i : Int)) r := fun h =>
   Ev.bind (hm _ (by omega)) (Ev.no (by simp [h1]) (Ev.bind (hm _ (by omega)) (Ev.no (by simp [h2]) h)))
  obtain ⟨nm, _⟩ := name_ev c.2.1 hce
  by_cases h3 : isNm c.2.1 = true
  case neg =>
   refine ⟨(5, ()), pre (Ev.step (fun k => monitor_checkModes.c2_eq _ _ _ _ _ _ _ _ _ _ _ _) ?_), fun h => by cases h⟩
   exact Ev.bind nm (Ev.yes (by simpa using h3) (Ev.now _))
  have key : (0 < i → befC (w.2.1.getD (i - 1) (Ty.dflt YModeChange)) c) → ∃ r, Ev (fun k => monitor_checkModes.c1 k w.1 w.2.1 w.2.2.1 w.2.2.2 w.2.1 (w.2.1.length : Int) ((i : Int) + 1)) r ∧ (r.1 = 0 → ModesOk w) := fun hb => next () fun j hj hjl => by
   by_cases e : j = i
   ·subst e
    rw [hgd]
    exact ⟨⟨h1, h2, nm_ne h3⟩, hb⟩
   ·exact hs j (by omega) hjl
  by_cases hi0 : i = 0
  ·subst hi0
   obtain ⟨r, r1, r2⟩ := key (fun h => by omega)
   refine ⟨r, pre (Ev.step (fun k => monitor_checkModes.c2_eq _ _ _ _ _ _ _ _ _ _ _ _) ?_), r2⟩
   refine Ev.bind nm (Ev.no (by simp [h3]) (Ev.no (by simp) ?_))
   rw [hw]; exact r1
  ·have hw1 : IntKind.wrap .i64 ((i : Int) - 1) = ((i - 1 : Nat) : Int) := by rw [w64 (by omega) (by omega)]; omega
   have pre2 : ∀ {r : Int × Unit}, Ev (fun k => if (lessS c.1 (w.2.1.getD (i - 1) (Ty.dflt YModeChange)).1) = true then some (8, ()) else if (decide (c.1 = (w.2.1.getD (i - 1) (Ty.dflt YModeChange)).1)) = true then (if (!(lessS (w.2.1.getD (i - 1) (Ty.dflt YModeChange)).2.1 c.2.1)) = true then some (8, ()) else monitor_checkModes.c1 k w.1 w.2.1 w.2.2.1 w.2.2.2 w.2.1 (w.2.1.length : Int) ((i : Int) + 1)) else monitor_checkModes.c1 k w.1 w.2.1 w.2.2.1 w.2.2.2 w.2.1 (w.2.1.length : Int) ((i : Int) + 1)) r →
    Ev (fun k => monitor_checkModes.c2 k w.1 w.2.1 w.2.2.1 w.2.2.2 (i : Int) c.1 c.2.1 c.2.2 w.2.1 (w.2.1.length : Int) (i : Int)) r := fun {r} h => by
    refine Ev.step (fun k => monitor_checkModes.c2_eq _ _ _ _ _ _ _ _ _ _ _ _) ?_
    refine Ev.bind nm (Ev.no (by simp [h3]) (Ev.yes (by simp; omega) ?_))
    simp only [hw1, hw, Int.toNat_natCast]
    exact Ev.yes (by omega) h
   by_cases l1 : lessS c.1 (w.2.1.getD (i - 1) (Ty.dflt YModeChange)).1 = true
   ·exact ⟨(8, ()), pre (pre2 (Ev.yes l1 (Ev.now _))), fun h => by cases h⟩
   have l1' : lessS c.1 (w.2.1.getD (i - 1) (Ty.dflt YModeChange)).1 = false := by simpa using l1
   by_cases l2 : c.1 = (w.2.1.getD (i - 1) (Ty.dflt YModeChange)).1
   ·by_cases l3 : lessS (w.2.1.getD (i - 1) (Ty.dflt YModeChange)).2.1 c.2.1 = true
    ·obtain ⟨r, r1, r2⟩ := key (fun _ => ⟨l1', fun _ => l3⟩)
     exact ⟨r, pre (pre2 (Ev.no l1 (Ev.yes (decide_eq_true l2) (Ev.no (fun h => by rw [l3] at h; cases h) r1)))), r2⟩
    ·exact ⟨(8, ()), pre (pre2 (Ev.no l1 (Ev.yes (decide_eq_true l2) (Ev.yes (by simpa using l3) (Ev.now _))))), fun h => by cases h⟩
   ·obtain ⟨r, r1, r2⟩ := key (fun _ => ⟨l1', fun h => absurd h l2⟩)
    exact ⟨r, pre (pre2 (Ev.no l1 (Ev.no (fun h => l2 (of_decide_eq_true h)) r1))), r2⟩
end Go.Proofs.Ytadhpgecilhgnaa.Pure

-- YtadhpgecilhgnaaQ2
set_option linter.unusedVariables false
set_option linter.unusedSimpArgs false
namespace Go.Proofs.Ytadhpgecilhgnaa.Pure
open Go Go.Proofs.Ytadhpgecilhgnaa.A

theorem modes_ev (w : DWatch) (h0 : okT YWatch w) : ∃ r : Int × Unit, Ev (fun k => monitor_checkModes.f k w) r ∧ (r.1 = 0 → ModesOk w) := by
 have hm := contains_ev w.1
 by_cases m0 : w.1.length = 0
 ·refine ⟨(9, ()), Ev.eq (fun k => monitor_checkModes.f_eq _ _) ?_, fun h => by cases h⟩
  exact Ev.yes (by simp [m0]) (Ev.now _)
 by_cases ml : 50 < w.1.length
 ·refine ⟨(2, ()), Ev.eq (fun k => monitor_checkModes.f_eq _ _) ?_, fun h => by cases h⟩
  exact Ev.no (fun h => m0 (by have := of_decide_eq_true h; omega)) (Ev.yes (decide_eq_true (by omega)) (Ev.now _))
 have start : ∀ {r}, Ev (fun k => monitor_checkModes.c0 k w.1 w.2.1 w.2.2.1 w.2.2.2 w.1 (w.1.length : Int) 0) r → Ev (fun k => monitor_checkModes.f k w) r := fun {r} h => by
  refine Ev.eq (fun k => monitor_checkModes.f_eq _ _) ?_
  exact Ev.no (fun h => m0 (by have := of_decide_eq_true h; omega)) (Ev.no (fun h => ml (by have := of_decide_eq_true h; omega)) h)
 have := Ev.rngR (σ := Unit) ([] : List UInt8) w.1 (by omega) (g := fun k _ i => monitor_checkModes.c0 k w.1 w.2.1 w.2.2.1 w.2.2.2 w.1 (w.1.length : Int) i) (fun k _ i => monitor_checkModes.c0_eq _ _ _ _ _ _ _ _)
  (fun i _ => ∀ j, j < i → 0 < j → lessS (w.1.getD (j - 1) []) (w.1.getD j []) = true) (fun r => r.1 = 0 → ModesOk w) (fun _ hs => ?_) (fun i x _ hi hc hget hgd hw hs next => ?_) 0 () (by omega) (fun j hj => by omega)
 ·obtain ⟨r, r1, r2⟩ := this
  exact ⟨r, start r1, r2⟩
 ·by_cases cl : 500 < w.2.1.length
  ·exact ⟨(2, ()), Ev.yes (decide_eq_true (by omega)) (Ev.now _), fun h => by cases h⟩
  ·obtain ⟨r, r1, r2⟩ := changes_ev w h0 (by omega) (by omega) (by omega) hs
   exact ⟨r, Ev.no (fun h => cl (by have := of_decide_eq_true h; omega)) r1, r2⟩
 ·simp only [Int.toNat_natCast, hgd, hw]
  obtain ⟨nm, _⟩ := name_ev x (h0.1.2.2 x hc)
  by_cases h3 : isNm x = true
  case neg => exact ⟨(5, ()), Ev.bind nm (Ev.yes (by simpa using h3) (Ev.now _)), fun h => by cases h⟩
  by_cases hi0 : i = 0
  ·subst hi0
   obtain ⟨r, r1, r2⟩ := next () (fun j hj h0 => by omega)
   exact ⟨r, Ev.bind nm (Ev.no (by simp [h3]) (Ev.no (by simp) r1)), r2⟩
  ·have hw1 : IntKind.wrap .i64 ((i : Int) - 1) = ((i - 1 : Nat) : Int) := by rw [w64 (by omega) (by omega)]; omega
   simp only [hw1, Int.toNat_natCast]
   by_cases l1 : lessS (w.1.getD (i - 1) []) x = true
   ·obtain ⟨r, r1, r2⟩ := next () (fun j hj h0 => by
     by_cases e : j = i
     ·subst e; rw [hgd]; exact l1
     ·exact hs j (by omega) h0)
    exact ⟨r, Ev.bind nm (Ev.no (by simp [h3]) (Ev.yes (by simp; omega) (Ev.yes (by omega) (Ev.no (fun h => by rw [l1] at h; cases h) r1)))), r2⟩
   ·exact ⟨(8, ()), Ev.bind nm (Ev.no (by simp [h3]) (Ev.yes (by simp; omega) (Ev.yes (by omega) (Ev.yes (by simpa using l1) (Ev.now _))))), fun h => by cases h⟩
theorem rule_ev (w : DWatch) (x : DWatchRule) (hl : w.1.length ≤ 50) (hx : okT YWatchRule x) : ∃ r : Int × Unit, Ev (fun k => monitor_checkRule.f k w x) r := by
 have tail : ∃ r : Int × Unit, Ev (fun k => monitor_checkRule.c1 k x.1 x.2.1 x.2.2.1 x.2.2.2.1 x.2.2.2.2) r := by
  by_cases al : 10 < x.2.2.2.2.length
  ·refine ⟨(2, ()), Ev.step (fun k => monitor_checkRule.c1_eq _ _ _ _ _ _) ?_⟩
   exact Ev.yes (decide_eq_true (by omega)) (Ev.now _)
  have := Ev.rngR (σ := Unit) (Ty.dflt YAct) x.2.2.2.2 (by omega) (g := fun k _ i => monitor_checkRule.c2 k x.2.2.2.2 (x.2.2.2.2.length : Int) i) (fun k _ i => monitor_checkRule.c2_eq _ _ _ _)
   (fun i _ => True) (fun r => True) (fun _ hs => ⟨_, Ev.now _, trivial⟩) (fun i y _ hi hc hget hgd hw hs next => ?_) 0 () (by omega) trivial
  ·obtain ⟨r, r1, _⟩ := this
   refine ⟨r, Ev.step (fun k => monitor_checkRule.c1_eq _ _ _ _ _ _) ?_⟩
   exact Ev.no (fun h => al (by have := of_decide_eq_true h; omega)) r1
  ·simp only [Int.toNat_natCast, hgd, hw, in_ev, Option.bind_some]
   obtain ⟨nm, _⟩ := name_ev y.2.1 ((hx.2.2.2.2.2.2 y hc).2.1)
   obtain ⟨r, r1, _⟩ := next () trivial
   by_cases k1 : (1 ≤ y.1 ∧ y.1 ≤ 4)
   case neg => exact ⟨(4, ()), Ev.yes (by simp only [decide_eq_false k1]; rfl) (Ev.now _), trivial⟩
   by_cases h3 : isNm y.2.1 = true
   case neg => exact ⟨(5, ()), Ev.no (by simp only [decide_eq_true k1]; simp) (Ev.bind nm (Ev.yes (by simpa using h3) (Ev.now _))), trivial⟩
   by_cases h4 : y.2.2 = true
   case neg => exact ⟨r, Ev.no (by simp only [decide_eq_true k1]; simp) (Ev.bind nm (Ev.no (by simp [h3]) (Ev.no h4 r1))), trivial⟩
   by_cases h5 : y.1 = 4
   ·exact ⟨r, Ev.no (by simp only [decide_eq_true k1]; simp) (Ev.bind nm (Ev.no (by simp [h3]) (Ev.yes h4 (Ev.no (by simp [h5]) r1)))), trivial⟩
   ·exact ⟨(3, ()), Ev.no (by simp only [decide_eq_true k1]; simp) (Ev.bind nm (Ev.no (by simp [h3]) (Ev.yes h4 (Ev.yes (by simpa using h5) (Ev.now _))))), trivial⟩
 obtain ⟨r, r1⟩ := tail
 obtain ⟨n1, _⟩ := name_ev x.1 hx.1
 obtain ⟨n2, _⟩ := name_ev x.2.1 hx.2.1
 by_cases a1 : isNm x.1 = true
 case neg =>
  refine ⟨(5, ()), Ev.eq (fun k => monitor_checkRule.f_eq _ _ _) ?_⟩
  exact Ev.bind n1 (Ev.yes (by simpa using a1) (Ev.now _))
 by_cases a2 : isNm x.2.1 = true
 case neg =>
  refine ⟨(5, ()), Ev.eq (fun k => monitor_checkRule.f_eq _ _ _) ?_⟩
  exact Ev.bind n1 (Ev.no (by simp [a1]) (Ev.bind n2 (Ev.yes (by simpa using a2) (Ev.now _))))
 have go : ∀ {r}, Ev (fun k => monitor_checkRule.c0 k w.1 w.2.1 w.2.2.1 w.2.2.2 x.1 x.2.1 x.2.2.1 x.2.2.2.1 x.2.2.2.2) r → Ev (fun k => monitor_checkRule.f k w x) r := fun {r} h => by
  refine Ev.eq (fun k => monitor_checkRule.f_eq _ _ _) ?_
  exact Ev.bind n1 (Ev.no (by simp [a1]) (Ev.bind n2 (Ev.no (by simp [a2]) h)))
 by_cases a3 : x.2.2.1 = []
 ·refine ⟨r, go (Ev.step (fun k => monitor_checkRule.c0_eq _ _ _ _ _ _ _ _ _ _) ?_)⟩
  exact Ev.no (by simp [a3]) r1
 by_cases a4 : x.2.2.1 ∈ w.1
 ·refine ⟨r, go (Ev.step (fun k => monitor_checkRule.c0_eq _ _ _ _ _ _ _ _ _ _) ?_)⟩
  exact Ev.yes (by simpa using a3) (Ev.bind (contains_ev _ _ (by omega)) (Ev.no (by simp [a4]) r1))
 ·refine ⟨(9, ()), go (Ev.step (fun k => monitor_checkRule.c0_eq _ _ _ _ _ _ _ _ _ _) ?_)⟩
  exact Ev.yes (by simpa using a3) (Ev.bind (contains_ev _ _ (by omega)) (Ev.yes (by simp [a4]) (Ev.now _)))
theorem watch_ev (w : DWatch) (h0 : okT YWatch w) : ∃ r : Int × Unit, Ev (fun k => monitor_CheckWatch.f k w) r ∧ (r.1 = 0 → ModesOk w) := by
 obtain ⟨r, r1, r2⟩ := modes_ev w h0
 by_cases hr : r.1 = 0
 case neg =>
  refine ⟨r, Ev.eq (fun k => monitor_CheckWatch.f_eq _ _) ?_, fun h => absurd h hr⟩
  exact Ev.bind r1 (Ev.yes (by simpa using hr) (Ev.now _))
 have ok := r2 hr
 by_cases rl : 200 < w.2.2.2.length
 ·refine ⟨(2, ()), Ev.eq (fun k => monitor_CheckWatch.f_eq _ _) ?_, fun h => by cases h⟩
  exact Ev.bind r1 (Ev.no (by simp [hr]) (Ev.yes (decide_eq_true (by omega)) (Ev.now _)))
 suffices h : ∃ r : Int × Unit, Ev (fun k => monitor_CheckWatch.c0 k w.1 w.2.1 w.2.2.1 w.2.2.2 [] w.2.2.2 (w.2.2.2.length : Int) 0) r by
  obtain ⟨s, s1⟩ := h
  refine ⟨s, Ev.eq (fun k => monitor_CheckWatch.f_eq _ _) ?_, fun _ => ok⟩
  exact Ev.bind r1 (Ev.no (by simp [hr]) (Ev.no (fun h => rl (by have := of_decide_eq_true h; omega)) s1))
 have acts : ∀ (m : List (List UInt8 × Bool)), ∃ r : Int × Unit, Ev (fun k => monitor_CheckWatch.c1 k m w.2.2.2 (w.2.2.2.length : Int) 0) r := fun m => by
  have := Ev.rngR (σ := Unit) (Ty.dflt YWatchRule) w.2.2.2 (by omega) (g := fun k _ i => monitor_CheckWatch.c1 k m w.2.2.2 (w.2.2.2.length : Int) i) (fun k _ i => monitor_CheckWatch.c1_eq _ _ _ _ _)
   (fun i _ => True) (fun r => True) (fun _ hs => ⟨_, Ev.now _, trivial⟩) (fun i x _ hi hc hget hgd hw hs next => ?_) 0 () (by omega) trivial
  ·obtain ⟨r, r1, _⟩ := this
   exact ⟨r, r1⟩
  ·simp only [Int.toNat_natCast, hgd, hw]
   have hx := h0.2.2.2.2.2 x hc
   have hl := hx.2.2.2.2.1
   exact Ev.rngR (σ := Unit) (Ty.dflt YAct) x.2.2.2.2 (by omega) (g := fun k _ j => monitor_CheckWatch.c2 k m w.2.2.2 (w.2.2.2.length : Int) (i : Int) x.2.2.2.2 (x.2.2.2.2.length : Int) j) (fun k _ j => monitor_CheckWatch.c2_eq _ _ _ _ _ _ _ _)
    (fun i _ => True) (fun r => True) (fun _ hs => by rw [hw]; exact next () trivial) (fun j y _ hj hcy hgety hgdy hwy hsy nexty => by
     simp only [Int.toNat_natCast, hgdy, hwy]
     obtain ⟨r, r1, _⟩ := nexty () trivial
     by_cases k1 : y.1 = 2
     ·by_cases k2 : mapGet .str .bool y.2.1 m false = true
      ·exact ⟨r, Ev.yes (decide_eq_true k1) (Ev.no (by simp [k2]) r1), trivial⟩
      ·exact ⟨(9, ()), Ev.yes (decide_eq_true k1) (Ev.yes (by simpa using k2) (Ev.now _)), trivial⟩
     ·by_cases k3 : y.1 = 3
      ·by_cases k2 : mapGet .str .bool y.2.1 m false = true
       ·exact ⟨r, Ev.no (by simpa using k1) (Ev.yes (decide_eq_true k3) (Ev.no (by simp [k2]) r1)), trivial⟩
       ·exact ⟨(9, ()), Ev.no (by simpa using k1) (Ev.yes (decide_eq_true k3) (Ev.yes (by simpa using k2) (Ev.now _))), trivial⟩
      ·exact ⟨r, Ev.no (by simpa using k1) (Ev.no (by simpa using k3) r1), trivial⟩) 0 () (by omega) trivial
 have := Ev.rngR (σ := List (List UInt8 × Bool)) (Ty.dflt YWatchRule) w.2.2.2 (by omega) (g := fun k m i => monitor_CheckWatch.c0 k w.1 w.2.1 w.2.2.1 w.2.2.2 m w.2.2.2 (w.2.2.2.length : Int) i) (fun k _ i => monitor_CheckWatch.c0_eq _ _ _ _ _ _ _ _ _)
  (fun i _ => True) (fun r => True) (fun m hs => by
   obtain ⟨r, r1⟩ := acts m
   exact ⟨r, r1, trivial⟩) (fun i x m hi hc hget hgd hw hs next => ?_) 0 [] (by omega) trivial
 ·obtain ⟨r, r1, _⟩ := this
  exact ⟨r, r1⟩
 ·simp only [Int.toNat_natCast, hgd, hw]
  have hx := h0.2.2.2.2.2 x hc
  obtain ⟨q, q1⟩ := rule_ev w x ok.ml hx
  obtain ⟨r, r1, _⟩ := next (mapPut .str .bool x.1 true m) trivial
  by_cases c1 : q.1 = 0
  case neg => exact ⟨(q.1, ()), Ev.bind q1 (Ev.yes (by simpa using c1) (Ev.now _)), trivial⟩
  by_cases hi0 : i = 0
  ·subst hi0
   exact ⟨r, Ev.bind q1 (Ev.no (by simp [c1]) (Ev.no (by simp) r1)), trivial⟩
  ·have hw1 : IntKind.wrap .i64 ((i : Int) - 1) = ((i - 1 : Nat) : Int) := by rw [w64 (by omega) (by omega)]; omega
   simp only [hw1, Int.toNat_natCast]
   by_cases l1 : lessS (w.2.2.2.getD (i - 1) (Ty.dflt YWatchRule)).1 x.1 = true
   ·exact ⟨r, Ev.bind q1 (Ev.no (by simp [c1]) (Ev.yes (by simp; omega) (Ev.yes (by omega) (Ev.no (fun h => by rw [l1] at h; cases h) r1)))), trivial⟩
   ·exact ⟨(8, ()), Ev.bind q1 (Ev.no (by simp [c1]) (Ev.yes (by simp; omega) (Ev.yes (by omega) (Ev.yes (by simpa using l1) (Ev.now _))))), trivial⟩
end Go.Proofs.Ytadhpgecilhgnaa.Pure

-- YtadhpgecilhgnaaQ3
set_option linter.unusedVariables false
set_option linter.unusedSimpArgs false
namespace Go.Proofs.Ytadhpgecilhgnaa.Pure
open Go Go.Proofs.Ytadhpgecilhgnaa.A

abbrev S := List UInt8
section
variable {σ : Ty}
end
def Wi (C : List DModeChange) (fr : S) : Nat → S → Prop
 | 0, y => y = fr
 | n + 1, y => Wi C fr n y ∨ ∃ c ∈ C, Wi C fr n c.1 ∧ c.2.2 = y
theorem Wi.mono {C : List DModeChange} {fr y : S} {n m : Nat} (h : n ≤ m) (hw : Wi C fr n y) : Wi C fr m y := by
 induction m with
 | zero =>
  obtain rfl : n = 0 := by omega
  exact hw
 | succ m ih =>
  by_cases e : n = m + 1
  ·subst e; exact hw
  ·exact .inl (ih (by omega))
def wk (C : List DModeChange) (m e : S) : S := match C.find? fun c => decide (c.1 = m ∧ c.2.1 = e) with | some c => c.2.2 | none => m
end Go.Proofs.Ytadhpgecilhgnaa.Pure

-- YtadhpgecilhgnaaQ13
set_option linter.unusedVariables false
set_option linter.unusedSimpArgs false
namespace Go.Proofs.Ytadhpgecilhgnaa.Pure
open Go Go.Proofs.Ytadhpgecilhgnaa.A

abbrev rul (w : DWatch) (i : Nat) : DWatchRule := w.2.2.2.getD i (Ty.dflt YWatchRule)
def ActsOk (x : DWatchRule) : Prop := x.2.2.2.2.length ≤ 10 ∧ ∀ a ∈ x.2.2.2.2, a.1 = 1 → a.2.2 = false
structure RulesOk (w : DWatch) : Prop where
 rl : w.2.2.2.length ≤ 200
 ac : ∀ i, i < w.2.2.2.length → ActsOk (rul w i)
 od : ∀ j, j < w.2.2.2.length → 0 < j → lessS (rul w (j - 1)).1 (rul w j).1 = true
theorem rule_acts (w : DWatch) (x : DWatchRule) (hl : w.1.length ≤ 50) (hx : okT YWatchRule x) : ∃ r : Int × Unit, Ev (fun k => monitor_checkRule.f k w x) r ∧ (r.1 = 0 → ActsOk x) := by
 have tail : ∃ r : Int × Unit, Ev (fun k => monitor_checkRule.c1 k x.1 x.2.1 x.2.2.1 x.2.2.2.1 x.2.2.2.2) r ∧ (r.1 = 0 → ActsOk x) := by
  by_cases al : 10 < x.2.2.2.2.length
  ·refine ⟨(2, ()), Ev.step (fun k => monitor_checkRule.c1_eq _ _ _ _ _ _) ?_, fun h => by cases h⟩
   exact Ev.yes (decide_eq_true (by omega)) (Ev.now _)
  have := Ev.rngR (σ := Unit) (Ty.dflt YAct) x.2.2.2.2 (by omega) (g := fun k _ i => monitor_checkRule.c2 k x.2.2.2.2 (x.2.2.2.2.length : Int) i) (fun k _ i => monitor_checkRule.c2_eq _ _ _ _)
   (fun i _ => ∀ a ∈ x.2.2.2.2.take i, a.1 = 1 → a.2.2 = false) (fun r => r.1 = 0 → ActsOk x) (fun _ hs => ⟨(0, ()), Ev.now _, fun _ => ⟨by omega, by rw [List.take_length] at hs; exact hs⟩⟩) (fun i y _ hi hc hget hgd hw hs next => ?_) 0 () (by omega) (fun a ha => by simp at ha)
  ·obtain ⟨r, r1, r2⟩ := this
   refine ⟨r, Ev.step (fun k => monitor_checkRule.c1_eq _ _ _ _ _ _) ?_, r2⟩
   exact Ev.no (fun h => al (by have := of_decide_eq_true h; omega)) r1
  ·simp only [Int.toNat_natCast, hgd, hw, in_ev, Option.bind_some]
   obtain ⟨nm, _⟩ := name_ev y.2.1 ((hx.2.2.2.2.2.2 y hc).2.1)
   have nx : (y.1 = 1 → y.2.2 = false) → ∃ r : Int × Unit, Ev (fun k => monitor_checkRule.c2 k x.2.2.2.2 (x.2.2.2.2.length : Int) ((i : Int) + 1)) r ∧ (r.1 = 0 → ActsOk x) := fun h => next () fun a ha => by
    rw [List.take_add_one, hget] at ha
    rcases List.mem_append.1 ha with ha | ha
    ·exact hs a ha
    ·simp at ha; subst ha; exact h
   by_cases k1 : (1 ≤ y.1 ∧ y.1 ≤ 4)
   case neg => exact ⟨(4, ()), Ev.yes (by simp only [decide_eq_false k1]; rfl) (Ev.now _), fun h => by cases h⟩
   by_cases h3 : isNm y.2.1 = true
   case neg => exact ⟨(5, ()), Ev.no (by simp only [decide_eq_true k1]; simp) (Ev.bind nm (Ev.yes (by simpa using h3) (Ev.now _))), fun h => by cases h⟩
   by_cases h4 : y.2.2 = true
   case neg =>
    obtain ⟨r, r1, r2⟩ := nx (fun _ => by simpa using h4)
    exact ⟨r, Ev.no (by simp only [decide_eq_true k1]; simp) (Ev.bind nm (Ev.no (by simp [h3]) (Ev.no h4 r1))), r2⟩
   by_cases h5 : y.1 = 4
   ·obtain ⟨r, r1, r2⟩ := nx (fun h => by have e : (1 : Int) = 4 := h.symm.trans h5; omega)
    exact ⟨r, Ev.no (by simp only [decide_eq_true k1]; simp) (Ev.bind nm (Ev.no (by simp [h3]) (Ev.yes h4 (Ev.no (by simp [h5]) r1)))), r2⟩
   ·exact ⟨(3, ()), Ev.no (by simp only [decide_eq_true k1]; simp) (Ev.bind nm (Ev.no (by simp [h3]) (Ev.yes h4 (Ev.yes (by simpa using h5) (Ev.now _))))), fun h => by cases h⟩
 obtain ⟨r, r1, r2⟩ := tail
 obtain ⟨n1, _⟩ := name_ev x.1 hx.1
 obtain ⟨n2, _⟩ := name_ev x.2.1 hx.2.1
 by_cases a1 : isNm x.1 = true
 case neg =>
  refine ⟨(5, ()), Ev.eq (fun k => monitor_checkRule.f_eq _ _ _) ?_, fun h => by cases h⟩
  exact Ev.bind n1 (Ev.yes (by simpa using a1) (Ev.now _))
 by_cases a2 : isNm x.2.1 = true
 case neg =>
  refine ⟨(5, ()), Ev.eq (fun k => monitor_checkRule.f_eq _ _ _) ?_, fun h => by cases h⟩
  exact Ev.bind n1 (Ev.no (by simp [a1]) (Ev.bind n2 (Ev.yes (by simpa using a2) (Ev.now _))))
 have go : ∀ {r}, Ev (fun k => monitor_checkRule.c0 k w.1 w.2.1 w.2.2.1 w.2.2.2 x.1 x.2.1 x.2.2.1 x.2.2.2.1 x.2.2.2.2) r → Ev (fun k => monitor_checkRule.f k w x) r := fun {r} h => by
  refine Ev.eq (fun k => monitor_checkRule.f_eq _ _ _) ?_
  exact Ev.bind n1 (Ev.no (by simp [a1]) (Ev.bind n2 (Ev.no (by simp [a2]) h)))
 by_cases a3 : x.2.2.1 = []
 ·refine ⟨r, go (Ev.step (fun k => monitor_checkRule.c0_eq _ _ _ _ _ _ _ _ _ _) ?_), r2⟩
  exact Ev.no (by simp [a3]) r1
 by_cases a4 : x.2.2.1 ∈ w.1
 ·refine ⟨r, go (Ev.step (fun k => monitor_checkRule.c0_eq _ _ _ _ _ _ _ _ _ _) ?_), r2⟩
  exact Ev.yes (by simpa using a3) (Ev.bind (contains_ev _ _ (by omega)) (Ev.no (by simp [a4]) r1))
 ·refine ⟨(9, ()), go (Ev.step (fun k => monitor_checkRule.c0_eq _ _ _ _ _ _ _ _ _ _) ?_), fun h => by cases h⟩
  exact Ev.yes (by simpa using a3) (Ev.bind (contains_ev _ _ (by omega)) (Ev.yes (by simp [a4]) (Ev.now _)))
theorem watch_rules (w : DWatch) (h0 : okT YWatch w) {c : Int} (hc : Ev (fun k => monitor_CheckWatch.f k w) (c, ())) (c0 : c = 0) : RulesOk w := by
 subst c0
 obtain ⟨r, r1, r2⟩ := modes_ev w h0
 have rl : w.2.2.2.length ≤ 200 ∧ r.1 = 0 := by
  by_cases hr : r.1 = 0
  case neg =>
   have : Ev (fun k => monitor_CheckWatch.f k w) (r.1, ()) := Ev.eq (fun k => monitor_CheckWatch.f_eq _ _) (Ev.bind r1 (Ev.yes (by simpa using hr) (Ev.now _)))
   have e := hc.unique this
   simp only [Prod.mk.injEq, and_true] at e
   exact absurd e.symm hr
  refine ⟨?_, hr⟩
  apply Classical.byContradiction
  intro hn
  have : Ev (fun k => monitor_CheckWatch.f k w) (2, ()) := Ev.eq (fun k => monitor_CheckWatch.f_eq _ _) (Ev.bind r1 (Ev.no (by simp [hr]) (Ev.yes (decide_eq_true (by omega)) (Ev.now _))))
  have e := hc.unique this
  simp at e
 obtain ⟨rl, hr⟩ := rl
 have ok := r2 hr
 suffices h : ∃ s : Int × Unit, Ev (fun k => monitor_CheckWatch.c0 k w.1 w.2.1 w.2.2.1 w.2.2.2 [] w.2.2.2 (w.2.2.2.length : Int) 0) s ∧ (s.1 = 0 → RulesOk w) by
  obtain ⟨s, s1, s2⟩ := h
  have : Ev (fun k => monitor_CheckWatch.f k w) s := Ev.eq (fun k => monitor_CheckWatch.f_eq _ _) (Ev.bind r1 (Ev.no (by simp [hr]) (Ev.no (fun h => by have := of_decide_eq_true h; omega) s1)))
  have e := hc.unique this
  exact s2 (by rw [← e])
 have acts : ∀ (m : List (List UInt8 × Bool)), ∃ r : Int × Unit, Ev (fun k => monitor_CheckWatch.c1 k m w.2.2.2 (w.2.2.2.length : Int) 0) r := fun m => by
  have := Ev.rngR (σ := Unit) (Ty.dflt YWatchRule) w.2.2.2 (by omega) (g := fun k _ i => monitor_CheckWatch.c1 k m w.2.2.2 (w.2.2.2.length : Int) i) (fun k _ i => monitor_CheckWatch.c1_eq _ _ _ _ _)
   (fun i _ => True) (fun r => True) (fun _ hs => ⟨_, Ev.now _, trivial⟩) (fun i x _ hi hc hget hgd hw hs next => ?_) 0 () (by omega) trivial
  ·obtain ⟨r, r1, _⟩ := this
   exact ⟨r, r1⟩
  ·simp only [Int.toNat_natCast, hgd, hw]
   have hx := h0.2.2.2.2.2 x hc
   have hl := hx.2.2.2.2.1
   exact Ev.rngR (σ := Unit) (Ty.dflt YAct) x.2.2.2.2 (by omega) (g := fun k _ j => monitor_CheckWatch.c2 k m w.2.2.2 (w.2.2.2.length : Int) (i : Int) x.2.2.2.2 (x.2.2.2.2.length : Int) j) (fun k _ j => monitor_CheckWatch.c2_eq _ _ _ _ _ _ _ _)
    (fun i _ => True) (fun r => True) (fun _ hs => by rw [hw]; exact next () trivial) (fun j y _ hj hcy hgety hgdy hwy hsy nexty => by
     simp only [Int.toNat_natCast, hgdy, hwy]
     obtain ⟨r, r1, _⟩ := nexty () trivial
     by_cases k1 : y.1 = 2
     ·by_cases k2 : mapGet .str .bool y.2.1 m false = true
      ·exact ⟨r, Ev.yes (decide_eq_true k1) (Ev.no (by simp [k2]) r1), trivial⟩
      ·exact ⟨(9, ()), Ev.yes (decide_eq_true k1) (Ev.yes (by simpa using k2) (Ev.now _)), trivial⟩
     ·by_cases k3 : y.1 = 3
      ·by_cases k2 : mapGet .str .bool y.2.1 m false = true
       ·exact ⟨r, Ev.no (by simpa using k1) (Ev.yes (decide_eq_true k3) (Ev.no (by simp [k2]) r1)), trivial⟩
       ·exact ⟨(9, ()), Ev.no (by simpa using k1) (Ev.yes (decide_eq_true k3) (Ev.yes (by simpa using k2) (Ev.now _))), trivial⟩
      ·exact ⟨r, Ev.no (by simpa using k1) (Ev.no (by simpa using k3) r1), trivial⟩) 0 () (by omega) trivial
 have := Ev.rngR (σ := List (List UInt8 × Bool)) (Ty.dflt YWatchRule) w.2.2.2 (by omega) (g := fun k m i => monitor_CheckWatch.c0 k w.1 w.2.1 w.2.2.1 w.2.2.2 m w.2.2.2 (w.2.2.2.length : Int) i) (fun k _ i => monitor_CheckWatch.c0_eq _ _ _ _ _ _ _ _ _)
  (fun i _ => ∀ j, j < i → ActsOk (rul w j) ∧ (0 < j → lessS (rul w (j - 1)).1 (rul w j).1 = true)) (fun r => r.1 = 0 → RulesOk w) (fun m hs => by
   obtain ⟨r, r1⟩ := acts m
   exact ⟨r, r1, fun _ => ⟨rl, fun i hi => (hs i hi).1, fun j hj h0 => (hs j hj).2 h0⟩⟩) (fun i x m hi hc hget hgd hw hs next => ?_) 0 [] (by omega) (fun j hj => by omega)
 ·exact this
 ·simp only [Int.toNat_natCast, hgd, hw]
  have hx := h0.2.2.2.2.2 x hc
  obtain ⟨q, q1, q2⟩ := rule_acts w x ok.ml hx
  by_cases c1 : q.1 = 0
  case neg => exact ⟨(q.1, ()), Ev.bind q1 (Ev.yes (by simpa using c1) (Ev.now _)), fun h => absurd h c1⟩
  have nx : (0 < i → lessS (rul w (i - 1)).1 x.1 = true) → ∃ r : Int × Unit, Ev (fun k => monitor_CheckWatch.c0 k w.1 w.2.1 w.2.2.1 w.2.2.2 (mapPut .str .bool x.1 true m) w.2.2.2 (w.2.2.2.length : Int) ((i : Int) + 1)) r ∧ (r.1 = 0 → RulesOk w) := fun h => next _ fun j hj => by
   by_cases e : j = i
   ·subst e
    unfold rul at h ⊢
    rw [hgd]
    exact ⟨q2 c1, h⟩
   ·exact hs j (by omega)
  by_cases hi0 : i = 0
  ·subst hi0
   obtain ⟨r, r1, r2⟩ := nx (fun h => by omega)
   exact ⟨r, Ev.bind q1 (Ev.no (by simp [c1]) (Ev.no (by simp) r1)), r2⟩
  ·have hw1 : IntKind.wrap .i64 ((i : Int) - 1) = ((i - 1 : Nat) : Int) := by rw [w64 (by omega) (by omega)]; omega
   simp only [hw1, Int.toNat_natCast]
   by_cases l1 : lessS (w.2.2.2.getD (i - 1) (Ty.dflt YWatchRule)).1 x.1 = true
   ·obtain ⟨r, r1, r2⟩ := nx (fun _ => l1)
    exact ⟨r, Ev.bind q1 (Ev.no (by simp [c1]) (Ev.yes (by simp; omega) (Ev.yes (by omega) (Ev.no (fun h => by rw [l1] at h; cases h) r1)))), r2⟩
   ·exact ⟨(8, ()), Ev.bind q1 (Ev.no (by simp [c1]) (Ev.yes (by simp; omega) (Ev.yes (by omega) (Ev.yes (by simpa using l1) (Ev.now _))))), fun h => by cases h⟩

def Rai (x : DWatchRule) (e : S) : Prop := ∃ a ∈ x.2.2.2.2, a.1 = 1 ∧ a.2.1 = e
theorem raises_ev (x : DWatchRule) (e : S) (hl : x.2.2.2.2.length ≤ 10) : ∃ b : Bool, Ev (fun k => monitor_raises.f k x e) (b, ()) ∧ (b = true ↔ Rai x e) := by
 have := Ev.rngR (σ := Unit) (Ty.dflt YAct) x.2.2.2.2 (by omega) (g := fun k _ i => monitor_raises.c0 k e x.2.2.2.2 (x.2.2.2.2.length : Int) i) (fun k _ i => monitor_raises.c0_eq _ _ _ _ _)
  (fun i _ => ∀ a ∈ x.2.2.2.2.take i, ¬ (a.1 = 1 ∧ a.2.1 = e)) (fun r => r.1 = true ↔ Rai x e) (fun _ hs => ⟨(false, ()), Ev.now _, by
   rw [List.take_length] at hs
   exact ⟨fun h => (by cases h), fun ⟨a, ha, h⟩ => absurd h (hs a ha)⟩⟩) (fun i y _ hi hc hget hgd hw hs next => ?_) 0 () (by omega) (fun a ha => by simp at ha)
 ·obtain ⟨⟨b, u⟩, r1, r2⟩ := this
  exact ⟨b, Ev.eq (fun k => monitor_raises.f_eq _ _ _) r1, r2⟩
 ·simp only [Int.toNat_natCast, hgd, hw]
  have nx : ¬ (y.1 = 1 ∧ y.2.1 = e) → ∃ r : Bool × Unit, Ev (fun k => monitor_raises.c0 k e x.2.2.2.2 (x.2.2.2.2.length : Int) ((i : Int) + 1)) r ∧ (r.1 = true ↔ Rai x e) := fun h => next () fun a ha => by
   rw [List.take_add_one, hget] at ha
   rcases List.mem_append.1 ha with ha | ha
   ·exact hs a ha
   ·simp at ha; subst ha; exact h
  by_cases h1 : y.1 = 1
  ·by_cases h2 : y.2.1 = e
   ·exact ⟨(true, ()), Ev.yes (decide_eq_true h1) (Ev.yes (decide_eq_true h2) (Ev.now _)), ⟨fun _ => ⟨y, hc, h1, h2⟩, fun _ => rfl⟩⟩
   ·obtain ⟨r, r1, r2⟩ := nx fun h => h2 h.2
    exact ⟨r, Ev.yes (decide_eq_true h1) (Ev.no (fun h => h2 (of_decide_eq_true h)) r1), r2⟩
  ·obtain ⟨r, r1, r2⟩ := nx fun h => h1 h.1
   exact ⟨r, Ev.no (fun h => h1 (of_decide_eq_true h)) r1, r2⟩
def RowOk1 (w : DWatch) (i : Nat) (l : List Int) : Prop := l.length ≤ 200 ∧ ∀ v ∈ l, ∃ k : Nat, v = k ∧ k < w.2.2.2.length ∧ Rai (rul w i) (rul w k).2.1
structure SetsOk (w : DWatch) (nx : List (List Int)) : Prop where
 len : nx.length = w.2.2.2.length
 row : ∀ i, i < nx.length → RowOk1 w i (nx.getD i [])
theorem sets_ev (w : DWatch) (ok : RulesOk w) : ∃ r : List (List Int) × Unit, Ev (fun k => monitor_sets.f k w) r ∧ SetsOk w r.1 := by
 have rl := ok.rl
 have := Ev.rngR (σ := List (List Int)) (Ty.dflt YWatchRule) w.2.2.2 (by omega) (g := fun k s i => monitor_sets.c0 k w.1 w.2.1 w.2.2.1 w.2.2.2 s w.2.2.2 (w.2.2.2.length : Int) i) (fun k s i => monitor_sets.c0_eq _ _ _ _ _ _ _ _ _)
  (fun i s => s.length = i ∧ ∀ j, j < i → RowOk1 w j (s.getD j [])) (fun r => SetsOk w r.1) (fun s hs => ⟨(s, ()), Ev.now _, ⟨hs.1, fun i hi => hs.2 i (by rw [← hs.1]; exact hi)⟩⟩) (fun i x s hi hc hget hgd hw hs next => ?_) 0 [] (by omega) ⟨rfl, fun j hj => by omega⟩
 ·obtain ⟨r, r1, r2⟩ := this
  exact ⟨r, Ev.eq (fun k => monitor_sets.f_eq _ _) r1, r2⟩
 ·simp only [Int.toNat_natCast, hgd]
  have hx : rul w i = x := hgd
  have ha := (ok.ac i hi).1
  rw [hx] at ha
  exact Ev.rngR (σ := List Int) (Ty.dflt YWatchRule) w.2.2.2 (by omega) (g := fun k l j => monitor_sets.c1 k w.1 w.2.1 w.2.2.1 w.2.2.2 s x.1 x.2.1 x.2.2.1 x.2.2.2.1 x.2.2.2.2 l w.2.2.2 (w.2.2.2.length : Int) (i : Int) w.2.2.2 (w.2.2.2.length : Int) j) (fun k l j => monitor_sets.c1_eq _ _ _ _ _ _ _ _ _ _ _ _ _ _ _ _ _ _)
   (fun j l => l.length ≤ j ∧ ∀ v ∈ l, ∃ k : Nat, v = k ∧ k < w.2.2.2.length ∧ Rai (rul w i) (rul w k).2.1) (fun r => SetsOk w r.1) (fun l hl => by
    obtain ⟨r, r1, r2⟩ := next (s ++ [l]) ⟨by simp [hs.1], fun j hj => by
     by_cases e : j = i
     ·subst e
      rw [List.getD_eq_getElem?_getD, List.getElem?_append_right (by omega), hs.1, Nat.sub_self]
      exact ⟨Nat.le_trans hl.1 rl, hl.2⟩
     ·rw [List.getD_eq_getElem?_getD, List.getElem?_append_left (by omega), ← List.getD_eq_getElem?_getD]
      exact hs.2 j (by omega)⟩
    refine ⟨r, ?_, r2⟩
    rw [hw]
    exact Ev.yes (by omega) r1) (fun j y l hj hcy hgety hgdy hwy hl nexty => by
    simp only [Int.toNat_natCast, hgdy, hwy]
    have hy : rul w j = y := hgdy
    obtain ⟨b, b1, b2⟩ := raises_ev x y.2.1 ha
    have b1 : Ev (fun k => monitor_raises.f k (x.1, (x.2.1, (x.2.2.1, (x.2.2.2.1, x.2.2.2.2)))) y.2.1) (b, ()) := b1
    cases b with
    | true =>
     obtain ⟨r, r1, r2⟩ := nexty (l ++ [(j : Int)]) ⟨by simp; omega, fun v hv => by
      rcases List.mem_append.1 hv with hv | hv
      ·exact hl.2 v hv
      ·simp at hv
       exact ⟨j, hv, hj, by rw [hx, hy]; exact b2.1 rfl⟩⟩
     exact ⟨r, Ev.bind b1 (Ev.yes rfl (Ev.yes (by omega) r1)), r2⟩
    | false =>
     obtain ⟨r, r1, r2⟩ := nexty l ⟨by omega, hl.2⟩
     exact ⟨r, Ev.bind b1 (Ev.no (by simp) r1), r2⟩) 0 [] (by omega) ⟨by simp, fun v hv => by cases hv⟩
end Go.Proofs.Ytadhpgecilhgnaa.Pure

-- YtadhpgecilhgnaaQ14
set_option linter.unusedVariables false
set_option linter.unusedSimpArgs false
namespace Go.Proofs.Ytadhpgecilhgnaa.Pure
open Go Go.Proofs.Ytadhpgecilhgnaa.A

def lkZ {β : Type} : List (Int × β) → Int → Option β
 | [], _ => none
 | p :: m, k => if p.1 = k then some p.2 else lkZ m k
section
variable {σ : Ty}
theorem eqZ {x y : Int} : eqV (.int .i64) x y = true ↔ x = y := eqV_iff (τ := .int .i64) rfl
theorem has_lkZ (m : List (Int × σ.den)) (k : Int) : mapHas (.int .i64) σ k m = (lkZ m k).isSome := by
 induction m with
 | nil => rfl
 | cons p m ih =>
  simp only [mapHas, List.any_cons] at ih ⊢
  rw [lkZ]
  by_cases h : p.1 = k
  ·rw [if_pos h, (eqZ (x := p.1) (y := k)).2 h]; rfl
  ·rw [if_neg h, ih]
   have : eqV (.int .i64) p.1 k = false := by rw [← Bool.not_eq_true]; exact fun e => h (eqZ.1 e)
   rw [this]; rfl
theorem get_lkZ (m : List (Int × σ.den)) (k : Int) (z : σ.den) : mapGet (.int .i64) σ k m z = (lkZ m k).getD z := by
 induction m with
 | nil => rfl
 | cons p m ih =>
  rw [mapGet, lkZ]
  by_cases h : p.1 = k
  ·rw [if_pos h, if_pos (eqZ.2 h)]; rfl
  ·rw [if_neg h, if_neg (fun e => h (eqZ.1 e)), ih]
theorem lkZ_put (m : List (Int × σ.den)) (k : Int) (v : σ.den) (j : Int) : lkZ (mapPut (.int .i64) σ k v m) j = if k = j then some v else lkZ m j := by
 induction m with
 | nil => simp [mapPut, lkZ]
 | cons p m ih =>
  rw [mapPut]
  by_cases h : p.1 = k
  ·rw [if_pos (eqZ.2 h), lkZ, lkZ]
   by_cases hj : k = j
   ·rw [if_pos hj, if_pos hj]
   ·rw [if_neg hj, if_neg hj, if_neg (fun e => hj (h ▸ e))]
  ·rw [if_neg (fun e => h (eqZ.1 e)), lkZ, lkZ, ih]
   by_cases hp : p.1 = j
   ·rw [if_pos hp, if_neg (fun e => h (hp.trans e.symm)), if_pos hp]
   ·rw [if_neg hp, if_neg hp]
end
theorem getD_appl {α : Type} {z v : α} {l : List α} {i : Nat} (h : i < l.length) : (l ++ [v]).getD i z = l.getD i z := by
 rw [List.getD_eq_getElem?_getD, List.getElem?_append_left h, ← List.getD_eq_getElem?_getD]
theorem getD_appr {α : Type} {z v : α} {l : List α} : (l ++ [v]).getD l.length z = v := by
 rw [List.getD_eq_getElem?_getD, List.getElem?_append_right (Nat.le_refl _), Nat.sub_self]; rfl
abbrev Bk := List (Int × List Int)
abbrev Fz := List (Int × Int)
structure NxL (nx : List (List Int)) : Prop where
 len : nx.length ≤ 200
 row : ∀ i : Nat, i < nx.length → (nx.getD i []).length ≤ 200 ∧ ∀ v ∈ nx.getD i [], 0 ≤ v ∧ v < nx.length
def Ed (nx : List (List Int)) (i v : Int) : Prop := v ∈ nx.getD i.toNat []
section
variable {nx : List (List Int)} {f : Nat}
def BkOk (nx : List (List Int)) (f : Nat) (b : Bk) : Prop := ∀ k i, i ∈ (lkZ b k).getD [] → (f : Int) ≤ i ∧ i < nx.length ∧ Ed nx i k ∧ (f : Int) ≤ k
structure FarOk (nx : List (List Int)) (f : Nat) (far : Fz) : Prop where
 w : ∀ i d, lkZ far i = some d → ((f : Int) ≤ i ∧ i < nx.length) ∧ (1 ≤ d ∧ d ≤ 300) ∧ ∃ k, Ed nx i k ∧ (f : Int) ≤ k ∧ ((d = 1 ∧ k = f) ∨ (2 ≤ d ∧ lkZ far k = some (d - 1)))
def RingOk (nx : List (List Int)) (f : Nat) (r : List Int) : Prop :=
 r = [] ∨ (r.length ≤ 400 ∧ 1 ≤ r.length ∧ r.getD 0 0 = f ∧ (∀ j, j + 1 < r.length → Ed nx (r.getD j 0) (r.getD (j + 1) 0)) ∧ Ed nx (r.getD (r.length - 1) 0) f ∧ ∀ v ∈ r, (f : Int) ≤ v ∧ v < nx.length)
theorem ring_out (hN : NxL nx) {far : Fz} (hF : FarOk nx f far) {D : Int} (hD : lkZ far f = some D) : ∀ (d : Nat) (at_ : Int) (out : List Int), (f : Int) ≤ at_ → at_ < nx.length →
 (1 ≤ out.length ∧ out.getD 0 0 = f ∧ (∀ j, j + 1 < out.length → Ed nx (out.getD j 0) (out.getD (j + 1) 0)) ∧ out.getD (out.length - 1) 0 = at_ ∧ ∀ v ∈ out, (f : Int) ≤ v ∧ v < nx.length) →
 (∃ k, Ed nx at_ k ∧ (f : Int) ≤ k ∧ ((d = 0 ∧ k = f) ∨ (1 ≤ d ∧ lkZ far k = some (d : Int)))) → (d : Int) < D → out.length + d ≤ 400 →
 ∃ r : List Int, Ev (fun k => monitor_ring.c4 k nx f far out at_ (d : Int)) (r, ()) ∧ RingOk nx f r := by
 have hl := hN.len
 intro d
 induction d with
 | zero =>
  intro at_ out h1 h2 ⟨o1, o2, o3, o4, o5⟩ ⟨k, k1, k2, k3⟩ _ ho
  have hk : k = f := by rcases k3 with ⟨_, k3⟩ | ⟨k3, _⟩ <;> first | exact k3 | omega
  subst hk
  refine ⟨out, Ev.step (fun k => monitor_ring.c4_eq _ _ _ _ _ _ _) (Ev.no (by simp) (Ev.yes ?_ (Ev.now _))), .inr ⟨by omega, o1, o2, o3, by rw [o4]; exact k1, o5⟩⟩
  cases out with
  | nil => simp at o1
  | cons _ _ => rfl
 | succ d ih =>
  intro at_ out h1 h2 ⟨o1, o2, o3, o4, o5⟩ ⟨k0, k1, k2, k3⟩ hlt ho
  have hk : lkZ far k0 = some ((d + 1 : Nat) : Int) := by rcases k3 with ⟨k3, _⟩ | ⟨_, k3⟩ <;> first | exact k3 | omega
  have hne : (f : Int) < k0 := by
   rcases Int.lt_or_eq_of_le k2 with h | h
   ·exact h
   ·rw [← h, hD] at hk
    have := Option.some.inj hk
    omega
  have hrow := hN.row at_.toNat (by omega)
  have hw : IntKind.wrap .i64 (((d + 1 : Nat) : Int) - 1) = (d : Int) := by rw [w64 (by omega) (by omega)]; omega
  have h := Ev.rngR (σ := Unit) (0 : Int) (nx.getD at_.toNat []) (by omega) (g := fun k _ j => monitor_ring.c6 k nx f far out at_ ((d + 1 : Nat) : Int) (nx.getD at_.toNat []) ((nx.getD at_.toNat []).length : Int) j) (fun k _ j => monitor_ring.c6_eq _ _ _ _ _ _ _ _ _ _)
   (fun j _ => ∀ v ∈ (nx.getD at_.toNat []).take j, ¬ (lkZ far v = some ((d + 1 : Nat) : Int) ∧ (f : Int) < v)) (fun r => RingOk nx f r.1) (fun _ hs => ?_) (fun j v _ hj hv hget hgd hwj hs next => ?_) 0 () (by omega) (fun v hv => by simp at hv)
  ·obtain ⟨⟨r, u⟩, r1, r2⟩ := h
   refine ⟨r, Ev.step (fun k => monitor_ring.c4_eq _ _ _ _ _ _ _) (Ev.yes (decide_eq_true (by omega)) (Ev.yes (by omega) r1)), r2⟩
  ·rw [List.take_length] at hs
   exact absurd ⟨hk, hne⟩ (hs k0 k1)
  ·simp only [Int.toNat_natCast, hgd, hwj]
   rw [has_lkZ (σ := .int .i64), get_lkZ (σ := .int .i64)]
   have nxt : ¬ (lkZ far v = some ((d + 1 : Nat) : Int) ∧ (f : Int) < v) → ∃ r : List Int × Unit, Ev (fun k => monitor_ring.c6 k nx f far out at_ ((d + 1 : Nat) : Int) (nx.getD at_.toNat []) ((nx.getD at_.toNat []).length : Int) ((j : Int) + 1)) r ∧ RingOk nx f r.1 := fun h => next () fun u hu => by
    rw [List.take_add_one, hget] at hu
    rcases List.mem_append.1 hu with hu | hu
    ·exact hs u hu
    ·simp at hu; subst hu; exact h
   cases hx : lkZ far v with
   | none =>
    obtain ⟨r, r1, r2⟩ := nxt fun h => by rw [hx] at h; cases h.1
    exact ⟨r, Ev.no (by simp) r1, r2⟩
   | some e =>
    simp only [Option.getD_some]
    by_cases h3 : e = ((d + 1 : Nat) : Int)
    case neg =>
     obtain ⟨r, r1, r2⟩ := nxt fun h => by rw [hx] at h; exact h3 (Option.some.inj h.1)
     exact ⟨r, Ev.yes rfl (Ev.no (fun h => h3 (of_decide_eq_true h)) r1), r2⟩
    subst h3
    by_cases h4 : (f : Int) < v
    case neg =>
     obtain ⟨r, r1, r2⟩ := nxt fun h => h4 h.2
     exact ⟨r, Ev.yes rfl (Ev.yes (decide_eq_true rfl) (Ev.no (fun h => h4 (of_decide_eq_true h)) r1)), r2⟩
    obtain ⟨⟨q1, q2⟩, q3, k', q4, q5, q6⟩ := hF.w v _ hx
    obtain ⟨r, r1, r2⟩ := ih v (out ++ [v]) q1 q2 ⟨by simp, by rw [getD_appl (by omega)]; exact o2, fun i hi => by
     simp only [List.length_append, List.length_cons, List.length_nil] at hi
     by_cases e : i + 1 = out.length
     ·rw [getD_appl (by omega), e, getD_appr, show i = out.length - 1 by omega, o4]
      exact hv
     ·rw [getD_appl (by omega), getD_appl (by omega)]
      exact o3 i (by omega), by
     rw [List.length_append]
     exact getD_appr, fun u hu => by
     rcases List.mem_append.1 hu with hu | hu
     ·exact o5 u hu
     ·simp at hu; subst hu; exact ⟨q1, q2⟩⟩ ⟨k', q4, q5, by
     rcases q6 with ⟨e, q6⟩ | ⟨e, q6⟩
     ·exact .inl ⟨by omega, q6⟩
     ·exact .inr ⟨by omega, by rw [q6]; congr 1; omega⟩⟩ (by omega) (by simp; omega)
    refine ⟨(r, ()), Ev.yes rfl (Ev.yes (decide_eq_true rfl) (Ev.yes (decide_eq_true h4) (Ev.yes (by omega) ?_))), r2⟩
    rw [hw]
    exact r1
theorem ring_end (hN : NxL nx) {far : Fz} (hF : FarOk nx f far) {b : Bk} {lvl : Int} : ∃ r : List Int, Ev (fun k => monitor_ring.c2 k nx f b far [] lvl) (r, ()) ∧ RingOk nx f r := by
 cases hx : lkZ far f with
 | none =>
  refine ⟨[], Ev.step (fun k => monitor_ring.c2_eq _ _ _ _ _ _ _) (Ev.no (by simp) ?_), .inl rfl⟩
  rw [has_lkZ (σ := .int .i64), hx]
  exact Ev.yes (by simp) (Ev.now _)
 | some D =>
  obtain ⟨⟨q1, q2⟩, q3, k, q4, q5, q6⟩ := hF.w _ _ hx
  obtain ⟨r, r1, r2⟩ := ring_out hN hF hx (D - 1).toNat f [(f : Int)] q1 q2 ⟨by simp, by simp, fun j hj => by simp at hj, by simp, fun v hv => by simp at hv; subst hv; exact ⟨q1, q2⟩⟩ ⟨k, q4, q5, by
   rcases q6 with ⟨e, q6⟩ | ⟨e, q6⟩
   ·exact .inl ⟨by omega, q6⟩
   ·exact .inr ⟨by omega, by rw [q6]; congr 1; omega⟩⟩ (by omega) (by simp; omega)
  refine ⟨r, Ev.step (fun k => monitor_ring.c2_eq _ _ _ _ _ _ _) (Ev.no (by simp) ?_), r2⟩
  rw [has_lkZ (σ := .int .i64), get_lkZ (σ := .int .i64), hx]
  refine Ev.no (by simp) ?_
  rw [show IntKind.wrap .i64 ((some D).getD 0 - 1) = ((D - 1).toNat : Int) from by
   simp only [Option.getD_some]
   rw [w64 (by omega) (by omega)]; omega]
  exact r1
end
end Go.Proofs.Ytadhpgecilhgnaa.Pure

-- YtadhpgecilhgnaaQo
set_option linter.unusedVariables false
set_option linter.unusedSimpArgs false
namespace Go.Proofs.Ytadhpgecilhgnaa.Pure
open Go Go.Proofs.Ytadhpgecilhgnaa.A

def lxl : List S → List S → Prop
 | [], [] => False
 | [], _ :: _ => True
 | _ :: _, [] => False
 | x :: a, y :: b => lessS x y = true ∨ (x = y ∧ lxl a b)
def cl : List S → List S → Int
 | [], [] => 0
 | [], _ :: _ => -1
 | _ :: _, [] => 1
 | x :: a, y :: b => if lessS x y = true then -1 else if lessS y x = true then 1 else cl a b
def Pt (C : List DModeChange) : S → List S → S → Prop
 | x, [], y => x = y
 | x, e :: l, y => ∃ c ∈ C, c.1 = x ∧ c.2.1 = e ∧ Pt C c.2.2 l y
variable {C : List DModeChange}
end Go.Proofs.Ytadhpgecilhgnaa.Pure

-- YtadhpgecilhgnaaQ4
set_option linter.unusedVariables false
set_option linter.unusedSimpArgs false
namespace Go.Proofs.Ytadhpgecilhgnaa.Pure
open Go Go.Proofs.Ytadhpgecilhgnaa.A

theorem Ev.agreeL {α β : Type} {l : List β} (hl : l ≠ []) {K : Nat → β → List β → Option α} {r : α} (h : ∀ (i : Nat) (x : β), l[i]? = Option.some x → Ev (fun k => K k x (l.eraseIdx i)) r) : Ev (fun k => Go.Proofs.Ytadhpgecilhgnaa.A.agreeL l (K k)) r := by
 have bound : ∀ b : Nat, ∃ N, ∀ i, i < b → ∀ x, l[i]? = Option.some x → ∀ n, N ≤ n → K n x (l.eraseIdx i) = Option.some r := by
  intro b
  induction b with
  | zero => exact ⟨0, fun i hi => by omega⟩
  | succ b ih =>
   obtain ⟨N, hN⟩ := ih
   cases hb : l[b]? with
   | none =>
    refine ⟨N, fun i hi x hx n hn => ?_⟩
    by_cases e : i = b
    ·subst e; rw [hb] at hx; cases hx
    ·exact hN i (by omega) x hx n hn
   | some y =>
    obtain ⟨M, hM⟩ := h b y hb
    refine ⟨max N M, fun i hi x hx n hn => ?_⟩
    by_cases e : i = b
    ·subst e; rw [hb] at hx; cases hx; exact hM n (by omega)
    ·exact hN i (by omega) x hx n (by omega)
 obtain ⟨N, hN⟩ := bound l.length
 refine ⟨N, fun n hn => ?_⟩
 have all : ∀ (i : Nat) (x : β), l[i]? = Option.some x → K n x (l.eraseIdx i) = Option.some r := fun i x hx => hN i (List.getElem?_eq_some_iff.1 hx).1 x hx n hn
 show Go.Proofs.Ytadhpgecilhgnaa.A.agreeL l (K n) = _
 unfold Go.Proofs.Ytadhpgecilhgnaa.A.agreeL
 have e : ∃ r, ∀ (i : Nat) (x : β), l[i]? = Option.some x → K n x (l.eraseIdx i) = Option.some r := ⟨r, all⟩
 rw [dif_pos e]
 obtain ⟨x, xs, rfl⟩ := List.exists_cons_of_ne_nil hl
 have h1 := Classical.choose_spec e 0 x rfl
 rw [all 0 x rfl] at h1
 exact h1.symm

abbrev Mp := List (S × List S)
section
variable {C : List DModeChange} {B : S → Option (List S)} {M : List S}
end
section
variable {C : List DModeChange} {B : S → Option (List S)} {to md : S} {ms : List S} {rl : List DWatchRule} {best : Mp}
end
end Go.Proofs.Ytadhpgecilhgnaa.Pure

-- YtadhpgecilhgnaaQ5
set_option linter.unusedVariables false
set_option linter.unusedSimpArgs false
namespace Go.Proofs.Ytadhpgecilhgnaa.Pure
open Go Go.Proofs.Ytadhpgecilhgnaa.A

def WayOk (C : List DModeChange) (fr to : S) (r : List S × Bool × Int × Unit) : Prop :=
 r.2.2.1 = 0 ∧ ((r.2.1 = true ∧ (∃ n, Wi C fr n to) ∧ (∀ k, k < r.1.length → ¬ Wi C fr k to) ∧ r.1.foldl (wk C) fr = to ∧ r.1.length ≤ 1000 ∧ Pt C fr r.1 to ∧ ∀ l, l.length = r.1.length → Pt C fr l to → ¬ lxl l r.1) ∨ (r.2.1 = false ∧ r.1 = [] ∧ ∀ k, ¬ Wi C fr k to))
theorem filter_less {α : Type} {p q : α → Bool} : ∀ {l : List α}, (∀ x ∈ l, q x = true → p x = true) → (∃ x ∈ l, p x = true ∧ q x = false) → (l.filter q).length < (l.filter p).length
 | [], _, h => by obtain ⟨x, hx, _⟩ := h; cases hx
 | y :: l, h1, h2 => by
  have mono : (l.filter q).length ≤ (l.filter p).length := by
   clear h2
   induction l with
   | nil => simp
   | cons z l ih =>
    have ih := ih fun x hx => h1 x (by simp at hx ⊢; rcases hx with h | h <;> simp [h])
    have hz := h1 z (by simp)
    by_cases a : q z = true
    ·rw [List.filter_cons_of_pos a, List.filter_cons_of_pos (hz a)]; simp; omega
    ·rw [List.filter_cons_of_neg a]
     by_cases b : p z = true
     ·rw [List.filter_cons_of_pos b]; simp; omega
     ·rw [List.filter_cons_of_neg b]; omega
  by_cases hy : p y = true ∧ q y = false
  ·rw [List.filter_cons_of_pos hy.1, List.filter_cons_of_neg (by simp [hy.2])]
   simp; omega
  ·have ih := filter_less (l := l) (fun x hx => h1 x (by simp [hx])) (by
    obtain ⟨x, hx, e⟩ := h2
    rcases List.mem_cons.1 hx with rfl | hx
    ·exact absurd e hy
    ·exact ⟨x, hx, e⟩)
   by_cases a : q y = true
   ·rw [List.filter_cons_of_pos a, List.filter_cons_of_pos (h1 y (by simp) a)]; simp; omega
   ·rw [List.filter_cons_of_neg a]
    by_cases b : p y = true
    ·rw [List.filter_cons_of_pos b]; simp; omega
    ·rw [List.filter_cons_of_neg b]; omega
section
variable {C : List DModeChange} {fr to md : S} {ms : List S} {rl : List DWatchRule}
end
end Go.Proofs.Ytadhpgecilhgnaa.Pure

-- YtadhpgecilhgnaaQ15
set_option linter.unusedVariables false
set_option linter.unusedSimpArgs false
namespace Go.Proofs.Ytadhpgecilhgnaa.Pure
open Go Go.Proofs.Ytadhpgecilhgnaa.A
section
variable {nx : List (List Int)} {f : Nat}
def mz (nx : List (List Int)) (far : Fz) : Nat := ((List.range nx.length).filter fun (i : Nat) => (lkZ far (i : Int)).isNone).length
theorem mz_put {far : Fz} {i : Int} (h0 : 0 ≤ i) (h1 : i < nx.length) (hn : lkZ far i = none) (v : Int) : mz nx (mapPut (.int .i64) (.int .i64) i v far) < mz nx far := by
 unfold mz
 refine filter_less (fun x _ hx => ?_) ⟨i.toNat, by rw [List.mem_range]; omega, ?_, ?_⟩
 ·rw [lkZ_put (σ := .int .i64)] at hx
  split at hx
  ·cases hx
  ·exact hx
 ·rw [show ((i.toNat : Nat) : Int) = i by omega, hn]; rfl
 ·rw [show ((i.toNat : Nat) : Int) = i by omega, lkZ_put (σ := .int .i64), if_pos rfl]; rfl
structure Lev (nx : List (List Int)) (f : Nat) (far : Fz) (now more : List Int) (lvl : Int) (M : Nat) : Prop where
 fo : FarOk nx f far
 nw : ∀ k ∈ now, (f : Int) ≤ k ∧ ((lvl = 1 ∧ k = f) ∨ (2 ≤ lvl ∧ lkZ far k = some (lvl - 1)))
 mo : ∀ i ∈ more, (f : Int) ≤ i ∧ lkZ far i = some lvl
 me : mz nx far + more.length ≤ M
theorem far_put (hN : NxL nx) {far : Fz} {now more : List Int} {lvl : Int} {M : Nat} (h : Lev nx f far now more lvl M) (hl : 1 ≤ lvl ∧ lvl ≤ 300) {k i : Int} (hk : k ∈ now) (hi : (f : Int) ≤ i ∧ i < nx.length ∧ Ed nx i k) (hn : lkZ far i = none) :
 Lev nx f (mapPut (.int .i64) (.int .i64) i lvl far) now (more ++ [i]) lvl M := by
 have old : ∀ {j d}, lkZ far j = some d → lkZ (mapPut (.int .i64) (.int .i64) i lvl far) j = some d := fun {j d} hj => by
  rw [lkZ_put (σ := .int .i64), if_neg (fun e => by rw [e, hj] at hn; cases hn)]; exact hj
 have nw' : ∀ k ∈ now, (f : Int) ≤ k ∧ ((lvl = 1 ∧ k = f) ∨ (2 ≤ lvl ∧ lkZ (mapPut (.int .i64) (.int .i64) i lvl far) k = some (lvl - 1))) := fun k hk => by
  obtain ⟨a, b⟩ := h.nw k hk
  exact ⟨a, b.imp_right fun ⟨c, d⟩ => ⟨c, old d⟩⟩
 refine ⟨⟨fun j d hj => ?_⟩, nw', fun j hj => ?_, ?_⟩
 ·rw [lkZ_put (σ := .int .i64)] at hj
  split at hj
  ·rename_i e
   cases hj
   subst e
   obtain ⟨a, b⟩ := nw' k hk
   exact ⟨⟨hi.1, hi.2.1⟩, hl, k, hi.2.2, a, b⟩
  ·obtain ⟨a, b, k', c, d', e⟩ := h.fo.w j d hj
   exact ⟨a, b, k', c, d', e.imp_right fun ⟨p, q⟩ => ⟨p, old q⟩⟩
 ·rcases List.mem_append.1 hj with hj | hj
  ·obtain ⟨a, b⟩ := h.mo j hj
   exact ⟨a, old b⟩
  ·simp at hj
   subst hj
   exact ⟨hi.1, by rw [lkZ_put (σ := .int .i64), if_pos rfl]⟩
 ·have := mz_put (nx := nx) (by omega) hi.2.1 hn lvl
  have := h.me
  simp only [List.length_append, List.length_cons, List.length_nil]
  omega
theorem ring_levels (hN : NxL nx) {b : Bk} (hb : BkOk nx f b) (hbl : ∀ k, ((lkZ b k).getD []).length ≤ 1000000) : ∀ (d : Nat) (far : Fz) (now : List Int) (lvl : Int), FarOk nx f far → (∀ k ∈ now, (f : Int) ≤ k ∧ ((lvl = 1 ∧ k = f) ∨ (2 ≤ lvl ∧ lkZ far k = some (lvl - 1)))) →
 1 ≤ lvl → lvl + mz nx far ≤ 300 → now.length ≤ 300 → mz nx far ≤ d → ∃ r : List Int, Ev (fun k => monitor_ring.c2 k nx f b far now lvl) (r, ()) ∧ RingOk nx f r := by
 intro d
 induction d with
 | zero =>
  intro far now lvl hF hn h1 h2 h3 h4
  by_cases h0 : now = []
  ·subst h0; exact ring_end hN hF
  have hpos := List.length_pos_iff.2 h0
  have := Ev.rngR (σ := Fz × List Int) (0 : Int) now (by omega) (g := fun k s i => monitor_ring.c3 k nx f b s.1 lvl s.2 now (now.length : Int) i) (fun k s i => monitor_ring.c3_eq _ _ _ _ _ _ _ _ _ _)
   (fun i s => Lev nx f s.1 now s.2 lvl (mz nx far)) (fun r => RingOk nx f r.1) (fun s hs => ?_) (fun i k s hi hk hget hgd hw hs next => ?_) 0 (far, []) (by omega) ⟨hF, hn, fun i hi => (by cases hi), by simp⟩
  ·obtain ⟨⟨r, u⟩, r1, r2⟩ := this
   exact ⟨r, Ev.step (fun k => monitor_ring.c2_eq _ _ _ _ _ _ _) (Ev.yes (decide_eq_true (by omega)) r1), r2⟩
  ·obtain ⟨s1, s2⟩ := s
   have me := hs.me
   simp only at me hs
   have : s2 = [] := List.eq_nil_of_length_eq_zero (by omega)
   subst this
   obtain ⟨r, r1, r2⟩ := ring_end hN hs.fo (b := b) (lvl := IntKind.wrap .i64 (lvl + 1))
   exact ⟨(r, ()), r1, r2⟩
  ·obtain ⟨s1, s2⟩ := s
   simp only [Int.toNat_natCast, hgd, hw]
   rw [get_lkZ (σ := .sl (.int .i64))]
   exact Ev.rngR (σ := Fz × List Int) (0 : Int) ((lkZ b k).getD []) (by have := hbl k; omega) (g := fun n s j => monitor_ring.c5 n nx f b s.1 lvl s.2 now (now.length : Int) (i : Int) ((lkZ b k).getD []) (((lkZ b k).getD []).length : Int) j) (fun n s j => monitor_ring.c5_eq _ _ _ _ _ _ _ _ _ _ _ _ _)
    (fun j s => Lev nx f s.1 now s.2 lvl (mz nx far)) (fun r => RingOk nx f r.1) (fun s hs => by rw [hw]; exact next s hs) (fun j v s hj hv hgetv hgdv hwj hs nextj => by
     simp only [Int.toNat_natCast, hgdv, hwj]
     rw [has_lkZ (σ := .int .i64)]
     cases hx : lkZ s.1 v with
     | some e =>
      obtain ⟨r, r1, r2⟩ := nextj s hs
      exact ⟨r, Ev.no (by simp) r1, r2⟩
     | none =>
      obtain ⟨q1, q2, q3, q4⟩ := hb k v hv
      have l2 := far_put hN hs ⟨h1, by omega⟩ hk ⟨q1, q2, q3⟩ hx
      obtain ⟨r, r1, r2⟩ := nextj (mapPut (.int .i64) (.int .i64) v lvl s.1, s.2 ++ [v]) l2
      have := hs.me
      exact ⟨r, Ev.yes (by simp) (Ev.yes (by omega) r1), r2⟩) 0 (s1, s2) (by omega) hs
 | succ d ih =>
  intro far now lvl hF hn h1 h2 h3 h4
  by_cases h0 : now = []
  ·subst h0; exact ring_end hN hF
  have hpos := List.length_pos_iff.2 h0
  have := Ev.rngR (σ := Fz × List Int) (0 : Int) now (by omega) (g := fun k s i => monitor_ring.c3 k nx f b s.1 lvl s.2 now (now.length : Int) i) (fun k s i => monitor_ring.c3_eq _ _ _ _ _ _ _ _ _ _)
   (fun i s => Lev nx f s.1 now s.2 lvl (mz nx far)) (fun r => RingOk nx f r.1) (fun s hs => ?_) (fun i k s hi hk hget hgd hw hs next => ?_) 0 (far, []) (by omega) ⟨hF, hn, fun i hi => (by cases hi), by simp⟩
  ·obtain ⟨⟨r, u⟩, r1, r2⟩ := this
   exact ⟨r, Ev.step (fun k => monitor_ring.c2_eq _ _ _ _ _ _ _) (Ev.yes (decide_eq_true (by omega)) r1), r2⟩
  ·obtain ⟨s1, s2⟩ := s
   have me := hs.me
   simp only at me hs
   have hwl : IntKind.wrap .i64 (lvl + 1) = lvl + 1 := w64 (by omega) (by omega)
   by_cases e : s2 = []
   ·subst e
    obtain ⟨r, r1, r2⟩ := ring_end hN hs.fo (b := b) (lvl := IntKind.wrap .i64 (lvl + 1))
    exact ⟨(r, ()), r1, r2⟩
   ·have := List.length_pos_iff.2 e
    obtain ⟨r, r1, r2⟩ := ih s1 s2 (lvl + 1) hs.fo (fun k hk => by
     obtain ⟨a, c⟩ := hs.mo k hk
     exact ⟨a, .inr ⟨by omega, by rw [c]; congr 1; omega⟩⟩) (by omega) (by omega) (by omega) (by omega)
    refine ⟨(r, ()), ?_, r2⟩
    rw [hwl]
    exact r1
  ·obtain ⟨s1, s2⟩ := s
   simp only [Int.toNat_natCast, hgd, hw]
   rw [get_lkZ (σ := .sl (.int .i64))]
   exact Ev.rngR (σ := Fz × List Int) (0 : Int) ((lkZ b k).getD []) (by have := hbl k; omega) (g := fun n s j => monitor_ring.c5 n nx f b s.1 lvl s.2 now (now.length : Int) (i : Int) ((lkZ b k).getD []) (((lkZ b k).getD []).length : Int) j) (fun n s j => monitor_ring.c5_eq _ _ _ _ _ _ _ _ _ _ _ _ _)
    (fun j s => Lev nx f s.1 now s.2 lvl (mz nx far)) (fun r => RingOk nx f r.1) (fun s hs => by rw [hw]; exact next s hs) (fun j v s hj hv hgetv hgdv hwj hs nextj => by
     simp only [Int.toNat_natCast, hgdv, hwj]
     rw [has_lkZ (σ := .int .i64)]
     cases hx : lkZ s.1 v with
     | some e =>
      obtain ⟨r, r1, r2⟩ := nextj s hs
      exact ⟨r, Ev.no (by simp) r1, r2⟩
     | none =>
      obtain ⟨q1, q2, q3, q4⟩ := hb k v hv
      have l2 := far_put hN hs ⟨h1, by omega⟩ hk ⟨q1, q2, q3⟩ hx
      obtain ⟨r, r1, r2⟩ := nextj (mapPut (.int .i64) (.int .i64) v lvl s.1, s.2 ++ [v]) l2
      have := hs.me
      exact ⟨r, Ev.yes (by simp) (Ev.yes (by omega) r1), r2⟩) 0 (s1, s2) (by omega) hs
theorem ring_ev (hN : NxL nx) (hf : f ≤ nx.length) : ∃ r : List Int × Unit, Ev (fun k => monitor_ring.f k nx f) r ∧ RingOk nx f r.1 := by
 have hl := hN.len
 have := Ev.rngR (σ := Bk) ([] : List Int) nx (by omega) (g := fun k s i => monitor_ring.c0 k nx f s i) (fun k s i => monitor_ring.c0_eq _ _ _ _ _)
  (fun i s => f ≤ i ∧ BkOk nx f s ∧ ∀ k, ((lkZ s k).getD []).length ≤ i * 1000) (fun r => RingOk nx f r.1) (fun s hs => ?_) (fun i row s hi hc hget hgd hw hs next => ?_) f [] hf ⟨Nat.le_refl _, fun k i hi => (by simp [lkZ] at hi), fun k => by simp [lkZ]⟩
 ·obtain ⟨r, r1, r2⟩ := this
  exact ⟨r, Ev.eq (fun k => monitor_ring.f_eq _ _ _) r1, r2⟩
 ·obtain ⟨r, r1, r2⟩ := ring_levels (f := f) hN hs.2.1 (fun k => Nat.le_trans (hs.2.2 k) (by omega)) (mz nx []) [] [(f : Int)] 1 ⟨fun i d h => (by cases h)⟩ (fun k hk => by simp at hk; subst hk; exact ⟨by omega, .inl ⟨rfl, rfl⟩⟩) (by omega) (by
   have : mz nx [] ≤ nx.length := Nat.le_trans (List.length_filter_le _ _) (by simp)
   omega) (by simp) (Nat.le_refl _)
  exact ⟨(r, ()), r1, r2⟩
 ·simp only [Int.toNat_natCast, hgd]
  have hrow := hN.row i hi
  rw [hgd] at hrow
  have hed : ∀ v ∈ row, Ed nx (i : Int) v := fun v hv => by unfold Ed; rw [Int.toNat_natCast, hgd]; exact hv
  exact Ev.rngR (σ := Bk) (0 : Int) row (by omega) (g := fun k s j => monitor_ring.c1 k nx f s (i : Int) row (row.length : Int) j) (fun k s j => monitor_ring.c1_eq _ _ _ _ _ _ _ _)
   (fun j s => f ≤ i ∧ BkOk nx f s ∧ ∀ k, ((lkZ s k).getD []).length ≤ i * 1000 + j) (fun r => RingOk nx f r.1) (fun s hs => by
    rw [hw]
    exact next s ⟨by omega, hs.2.1, fun k => by have := hs.2.2 k; omega⟩) (fun j v s hj hv hgetv hgdv hwj hs nextj => by
    simp only [Int.toNat_natCast, hgdv, hwj]
    obtain ⟨hfi, hs1, hs2⟩ := hs
    by_cases h1 : (f : Int) ≤ v
    ·rw [get_lkZ (σ := .vec (.int .i64))]
     obtain ⟨r, r1, r2⟩ := nextj (mapPut (.int .i64) (.vec (.int .i64)) v ((lkZ s v).getD [] ++ [(i : Int)]) s) ⟨hfi, fun k u hu => by
      rw [lkZ_put (σ := .vec (.int .i64))] at hu
      split at hu
      ·rename_i e
       subst e
       simp only [Option.getD_some] at hu
       rcases List.mem_append.1 hu with hu | hu
       ·exact hs1 v u hu
       ·simp at hu
        subst hu
        exact ⟨by omega, by omega, hed v hv, h1⟩
      ·exact hs1 k u hu, fun k => by
      rw [lkZ_put (σ := .vec (.int .i64))]
      split
      ·have := hs2 v
       simp only [Option.getD_some, List.length_append, List.length_cons, List.length_nil]
       omega
      ·have := hs2 k; omega⟩
     have := hs2 v
     exact ⟨r, Ev.yes (decide_eq_true h1) (Ev.yes (by omega) (Ev.yes (eqZ.2 rfl) r1)), r2⟩
    ·obtain ⟨r, r1, r2⟩ := nextj s ⟨hfi, hs1, fun k => by have := hs2 k; omega⟩
     exact ⟨r, Ev.no (fun h => h1 (of_decide_eq_true h)) r1, r2⟩) 0 s (by omega) ⟨hs.1, hs.2.1, fun k => Nat.le_trans (hs.2.2 k) (Nat.le_add_right _ _)⟩
end
end Go.Proofs.Ytadhpgecilhgnaa.Pure

-- YtadhpgecilhgnaaPureWatchesLoopsAreRings
set_option linter.unusedVariables false
set_option linter.unusedSimpArgs false
namespace Go.Proofs.Ytadhpgecilhgnaa.Pure
open Go Go.Proofs.Ytadhpgecilhgnaa.A
section
variable {w : DWatch}
theorem nxl_of {nx : List (List Int)} (rl : w.2.2.2.length ≤ 200) (h : SetsOk w nx) : NxL nx := by
 refine ⟨by rw [h.len]; exact rl, fun i hi => ⟨(h.row i hi).1, fun v hv => ?_⟩⟩
 obtain ⟨k, k1, k2, _⟩ := (h.row i hi).2 v hv
 rw [h.len]
 omega
theorem rul_lt (ok : RulesOk w) {a b : Nat} (h : a < b) (hb : b < w.2.2.2.length) : lessS (rul w a).1 (rul w b).1 = true := by
 have : ∀ (d b : Nat), b < w.2.2.2.length → a + d + 1 = b → lessS (rul w a).1 (rul w b).1 = true := by
  intro d
  induction d with
  | zero =>
   intro b hb e
   have := ok.od b hb (by omega)
   rw [show b - 1 = a by omega] at this
   exact this
  | succ d ih =>
   intro b hb e
   have h1 := ih (b - 1) (by omega) (by omega)
   have h2 := ok.od b hb (by omega)
   exact less_trans h1 h2
 exact this (b - a - 1) b hb (by omega)
theorem lruleOf_ev (ok : RulesOk w) {k : Nat} (hk : k < w.2.2.2.length) : Ev (fun n => perigeelaw8_ruleOf.f n w (rul w k).1) (rul w k, ()) := by
 have rl := ok.rl
 have h := Ev.rng (σ := Unit) (Ty.dflt YWatchRule) w.2.2.2 (by omega) (g := fun n _ i => perigeelaw8_ruleOf.c0 n (rul w k).1 w.1 w.2.1 w.2.2.1 w.2.2.2 [] [] [] false [] i) (fun n _ i => perigeelaw8_ruleOf.c0_eq _ _ _ _ _ _ _ _ _ _ _ _)
  (fun i _ => i ≤ k) (fun _ _ _ => (rul w k, ())) (fun _ hs => by omega) (fun i x xs _ hi hx hd hget hw hs next => by
   simp only [Int.toNat_natCast, hget, hw]
   have hxi : rul w i = x := hget
   by_cases e : i = k
   ·subst e
    refine Ev.yes (decide_eq_true (by rw [hxi])) (Ev.yes (by omega) (Ev.is (by rw [hxi])))
   ·have hlt := rul_lt ok (show i < k by omega) hk
    rw [hxi] at hlt
    exact Ev.no (fun h => less_ne hlt (of_decide_eq_true h)) (next () (by omega))) 0 () (by omega) (Nat.zero_le _)
 exact Ev.eq (fun n => perigeelaw8_ruleOf.f_eq _ _ _) h
theorem actIn_ev (s : List DAct) (v : DAct) (hl : s.length ≤ 10) (hv : v ∈ s) : Ev (fun k => slices_Contains_apiAct.f k s v) (true, ()) := by
 obtain ⟨n, h1, h2⟩ := idx_loop (Ty.dflt YAct) v (e := fun x => eqV YAct v x) (fun x => eqV_iff (τ := YAct) rfl) s (by omega) (g := fun k i => slices_Index_apiAct.c0 k s v.1 v.2.1 v.2.2 (s.length : Int) i) (fun k i => slices_Index_apiAct.c0_eq _ _ _ _ _ _ _)
 refine Ev.eq (fun k => slices_Contains_apiAct.f_eq _ _ _) (Ev.bind (Ev.eq (fun k => slices_Index_apiAct.f_eq _ _ _) h1) (Ev.is ?_))
 rw [decide_eq_true (h2.2 hv)]
def nmOf (w : DWatch) (v : Int) : S := (rul w v.toNat).1
theorem loops_ev (h0 : okT YWatch w) {c : Int} (hc : Ev (fun k => monitor_CheckWatch.f k w) (c, ())) :
 (c ≠ 0 ∧ Ev (fun k => monitor_Loops.f k w) ([], (false, (c, ())))) ∨ (c = 0 ∧ ∃ nx best f, SetsOk w nx ∧ RingOk nx f best ∧ Ev (fun k => monitor_Loops.f k w) (best.map (nmOf w), ((!(List.isEmpty best)), (0, ())))) := by
 by_cases c0 : c = 0
 case neg => exact .inl ⟨c0, Ev.eq (fun k => monitor_Loops.f_eq _ _) (Ev.bind hc (Ev.yes (by simpa using c0) (Ev.now _)))⟩
 have ok := watch_rules w h0 hc c0
 have rl := ok.rl
 obtain ⟨⟨nx, u⟩, s1, s2⟩ := sets_ev w ok
 have s2 : SetsOk w nx := s2
 have hN := nxl_of rl s2
 have fin : ∀ best f, RingOk nx f best → Ev (fun k => monitor_Loops.c1 k w.1 w.2.1 w.2.2.1 w.2.2.2 best [] best (best.length : Int) 0) (best.map (nmOf w), ((!(List.isEmpty best)), (0, ()))) := fun best f hr => by
  have hb : best.length ≤ 400 ∧ ∀ v ∈ best, 0 ≤ v ∧ v < w.2.2.2.length := by
   rcases hr with e | ⟨e1, _, _, _, _, e2⟩
   ·subst e; exact ⟨by simp, fun v hv => by cases hv⟩
   ·exact ⟨e1, fun v hv => by have := e2 v hv; rw [s2.len] at this; omega⟩
  have h := Ev.rng (σ := List S) (0 : Int) best (by omega) (g := fun k s i => monitor_Loops.c1 k w.1 w.2.1 w.2.2.1 w.2.2.2 best s best (best.length : Int) i) (fun k s i => monitor_Loops.c1_eq _ _ _ _ _ _ _ _ _ _)
   (fun i s => s = (best.take i).map (nmOf w)) (fun _ _ _ => (best.map (nmOf w), ((!(List.isEmpty best)), (0, ())))) (fun s hs => by
    rw [hs, List.take_length]; exact Ev.now _) (fun i v vs s hi hv hd hget hw hs next => by
    simp only [Int.toNat_natCast, hget, hw]
    obtain ⟨v1, v2⟩ := hb.2 v hv
    have hsl : s.length ≤ 400 := by rw [hs, List.length_map]; exact Nat.le_trans (List.length_take_le _ _) (by omega)
    refine Ev.yes ⟨v1, v2⟩ (Ev.yes (by omega) (next _ ?_))
    rw [List.take_add_one, List.map_append, ← hs]
    have : best[i]? = some v := by
     have := congrArg (fun l => l[0]?) hd
     simpa using this
    rw [this]; rfl) 0 [] (by omega) (by rfl)
  exact h
 have loop : ∀ (d i : Nat) (best : List Int), i + d = w.2.2.2.length → (∃ f, RingOk nx f best) → ∃ best f, RingOk nx f best ∧ ∀ b0, b0 = () → True := fun _ _ best _ h => let ⟨f, h⟩ := h; ⟨best, f, h, fun _ _ => trivial⟩
 have loop : ∀ (d i : Nat) (best : List Int), i + d = w.2.2.2.length → (∃ f, RingOk nx f best) → ∃ best' f, RingOk nx f best' ∧ Ev (fun k => monitor_Loops.c0 k w.1 w.2.1 w.2.2.1 w.2.2.2 nx best (w.2.2.2.length : Int) (i : Int)) (best'.map (nmOf w), ((!(List.isEmpty best')), (0, ()))) := by
  intro d
  induction d with
  | zero =>
   intro i best hi ⟨f, hr⟩
   refine ⟨best, f, hr, Ev.step (fun k => monitor_Loops.c0_eq _ _ _ _ _ _ _ _ _) (Ev.no (by simp; omega) (fin best f hr))⟩
  | succ d ih =>
   intro i best hi hbest
   have hwi : IntKind.wrap .i64 ((i : Int) + 1) = ((i + 1 : Nat) : Int) := by rw [w64 (by omega) (by omega)]; omega
   obtain ⟨⟨r, u2⟩, r1, r2⟩ := ring_ev (f := i) hN (by rw [s2.len]; omega)
   have r2 : RingOk nx i r := r2
   obtain ⟨k1, f1, p1, p2⟩ := ih (i + 1) r (by omega) ⟨i, r2⟩
   obtain ⟨k2, f2, p3, p4⟩ := ih (i + 1) best (by omega) hbest
   have go : ∀ {x}, Ev (fun k => if (!(List.isEmpty r)) = true then (if (List.isEmpty best) = true then monitor_Loops.c0 k w.1 w.2.1 w.2.2.1 w.2.2.2 nx r (w.2.2.2.length : Int) ((i + 1 : Nat) : Int) else if (decide ((r.length : Int) < (best.length : Int))) = true then monitor_Loops.c0 k w.1 w.2.1 w.2.2.1 w.2.2.2 nx r (w.2.2.2.length : Int) ((i + 1 : Nat) : Int) else monitor_Loops.c0 k w.1 w.2.1 w.2.2.1 w.2.2.2 nx best (w.2.2.2.length : Int) ((i + 1 : Nat) : Int)) else monitor_Loops.c0 k w.1 w.2.1 w.2.2.1 w.2.2.2 nx best (w.2.2.2.length : Int) ((i + 1 : Nat) : Int)) x → Ev (fun k => monitor_Loops.c0 k w.1 w.2.1 w.2.2.1 w.2.2.2 nx best (w.2.2.2.length : Int) (i : Int)) x := fun {x} e => by
    refine Ev.step (fun k => monitor_Loops.c0_eq _ _ _ _ _ _ _ _ _) (Ev.yes (decide_eq_true (by omega)) (Ev.bind r1 ?_))
    rw [hwi]
    exact e
   by_cases e1 : (!(List.isEmpty r)) = true
   ·by_cases e2 : List.isEmpty best = true
    ·exact ⟨k1, f1, p1, go (Ev.yes e1 (Ev.yes e2 p2))⟩
    ·by_cases e3 : (r.length : Int) < (best.length : Int)
     ·exact ⟨k1, f1, p1, go (Ev.yes e1 (Ev.no e2 (Ev.yes (decide_eq_true e3) p2)))⟩
     ·exact ⟨k2, f2, p3, go (Ev.yes e1 (Ev.no e2 (Ev.no (fun h => e3 (of_decide_eq_true h)) p4)))⟩
   ·exact ⟨k2, f2, p3, go (Ev.no e1 p4)⟩
 obtain ⟨best, f, b1, b2⟩ := loop w.2.2.2.length 0 [] (by omega) ⟨0, .inl rfl⟩
 exact .inr ⟨c0, nx, best, f, s2, b1, Ev.eq (fun k => monitor_Loops.f_eq _ _) (Ev.bind hc (Ev.no (by simp [c0]) (Ev.bind s1 b2)))⟩
end
theorem WatchesLoopsAreRings (w : DWatch) (h0 : okT YWatch w) : ∃ n, perigeelaw8_WatchesLoopsAreRings.f n w = some (true, ()) := by
 refine Ev.rounds (g := fun k => perigeelaw8_WatchesLoopsAreRings.f k w) ?_
 obtain ⟨⟨c, u⟩, q1, _⟩ := watch_ev w h0
 rcases loops_ev h0 q1 with ⟨c0, l1⟩ | ⟨c0, nx, best, f, s2, hr, l1⟩
 ·exact Ev.eq (fun k => perigeelaw8_WatchesLoopsAreRings.f_eq _ _) (Ev.bind l1 (Ev.yes (by simpa using c0) (Ev.yes rfl (Ev.bind awake_ev (Ev.now _)))))
 have ok := watch_rules w h0 q1 c0
 have rl := ok.rl
 refine Ev.eq (fun k => perigeelaw8_WatchesLoopsAreRings.f_eq _ _) (Ev.bind l1 (Ev.no (by simp) ?_))
 rcases hr with e | ⟨e1, e2, e3, e4, e5, e6⟩
 ·subst e
  exact Ev.yes rfl (Ev.yes rfl (Ev.bind awake_ev (Ev.now _)))
 have hne : List.isEmpty best = false := by cases best with | nil => simp at e2 | cons _ _ => rfl
 refine Ev.no (by rw [hne]; simp) (Ev.step (fun k => perigeelaw8_WatchesLoopsAreRings.c0_eq _ _ _ _ _ _) ?_)
 have hlen : (best.map (nmOf w)).length = best.length := List.length_map _
 have rng : ∀ i, i < best.length → (f : Int) ≤ best.getD i 0 ∧ best.getD i 0 < w.2.2.2.length := fun i hi => by
  have := e6 _ (getD_mem (z := 0) hi)
  rw [s2.len] at this
  exact this
 have nm : ∀ i, i < best.length → (best.map (nmOf w)).getD i [] = (rul w (best.getD i 0).toNat).1 := fun i hi => by
  rw [List.getD_eq_getElem?_getD, List.getElem?_map, List.getElem?_eq_getElem hi, getD_nat _ _ _ hi]; rfl
 have h := Ev.rng (σ := Unit) ([] : S) (best.map (nmOf w)) (by omega) (g := fun k _ i => perigeelaw8_WatchesLoopsAreRings.c1 k w.1 w.2.1 w.2.2.1 w.2.2.2 (best.map (nmOf w)) i) (fun k _ i => perigeelaw8_WatchesLoopsAreRings.c1_eq _ _ _ _ _ _ _)
  (fun _ _ => True) (fun _ _ _ => (true, ())) (fun _ _ => Ev.yes (decide_eq_true (by omega)) (Ev.bind awake_ev (Ev.now _))) (fun i x xs _ hi hx hd hget hw _ next => by
   have hib : i < best.length := by omega
   obtain ⟨b1, b2⟩ := rng i hib
   have k1 := lruleOf_ev ok (k := (best.getD i 0).toNat) (by omega)
   rw [← nm i hib] at k1
   -- the next one's place
   obtain ⟨j, hj, hjl, hed⟩ : ∃ j : Nat, Int.tmod ((i : Int) + 1) ((best.map (nmOf w)).length : Int) = (j : Int) ∧ j < best.length ∧ Ed nx (best.getD i 0) (best.getD j 0) := by
    rw [hlen]
    by_cases e : i + 1 < best.length
    ·exact ⟨i + 1, by rw [Int.tmod_eq_of_lt (by omega) (by omega)]; omega, e, e4 i e⟩
    ·have e : i + 1 = best.length := by omega
     refine ⟨0, by rw [show (i : Int) + 1 = (best.length : Int) by omega, Int.tmod_self]; rfl, by omega, ?_⟩
     rw [e3, show i = best.length - 1 by omega]
     exact e5
   obtain ⟨d1, d2⟩ := rng j hjl
   have k2 := lruleOf_ev ok (k := (best.getD j 0).toNat) (by omega)
   rw [← nm j hjl] at k2
   simp only [Int.toNat_natCast, hw, hj]
   have k1 : Ev (fun n => perigeelaw8_ruleOf.f n (w.1, (w.2.1, (w.2.2.1, w.2.2.2))) ((best.map (nmOf w)).getD i [])) (rul w (best.getD i 0).toNat, ()) := k1
   have k2 : Ev (fun n => perigeelaw8_ruleOf.f n (w.1, (w.2.1, (w.2.2.1, w.2.2.2))) ((best.map (nmOf w)).getD j [])) (rul w (best.getD j 0).toNat, ()) := k2
   refine Ev.bind k1 (Ev.yes (by omega) (Ev.yes (by omega) (Ev.bind k2 (Ev.yes (by omega) (Ev.yes (by omega) (Ev.no ?_ (Ev.bind (actIn_ev _ _ (ok.ac _ (by omega)).1 ?_) (Ev.no (by simp) (next () trivial)))))))))
   ·rw [nm i hib, show (best.map (nmOf w)).getD 0 [] = (rul w (best.getD 0 0).toNat).1 from nm 0 (by omega), e3]
    intro hlt
    rcases Nat.lt_or_ge f (best.getD i 0).toNat with h | h
    ·have h1 := rul_lt ok h (by omega)
     have h2 : lessS (rul w (best.getD i 0).toNat).1 (rul w f).1 = false := less_asymm h1
     rw [show ((f : Int)).toNat = f from Int.toNat_natCast f, h2] at hlt
     cases hlt
    ·have : (best.getD i 0).toNat = f := by omega
     rw [this, show ((f : Int)).toNat = f from Int.toNat_natCast f] at hlt
     exact less_ne hlt rfl
   ·obtain ⟨k, k3, k4, a, a1, a2, a3⟩ := (s2.row (best.getD i 0).toNat (by rw [s2.len]; omega)).2 _ hed
    have a4 := (ok.ac _ (show (best.getD i 0).toNat < w.2.2.2.length by omega)).2 a a1 a2
    rw [show (best.getD j 0).toNat = k by omega, ← a3, ← a2, ← a4]
    exact a1) 0 () (by omega) trivial
 exact h
end Go.Proofs.Ytadhpgecilhgnaa.Pure
