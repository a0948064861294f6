/- A moment's code, filled into a layout of bytes and emptied again, reads as the moment (Code, Filled, ReadCode), at all moments. -/
import Derived.Below
import Derived.ChangeArms
import Derived.ChangeSlices
import Derived.DataElems
import Derived.DataReads
import Derived.Ground.Names2Prog
import Derived.KernelRfl
import Derived.Laws.Strings
import Derived.Lib.SlicesCompact
import Derived.Shelf.Slices.Cells
import Derived.Shelf.Slices.CompactI
import Derived.Shelf.Slices.In.SortNone
import Derived.Shelf.Slices.SearchI
import Derived.Shelf.Slices.Turned
import Derived.Shelf.Small.Bits
import Derived.Shelf.Small.Strs
import Derived.Shelf.Small.Wraps
import Derived.Shelf.Sort.Plain
import Derived.Shelf.Spec.SlicesGrow
import Derived.Shelf.Strconv.Itoa0
import Derived.SizedLaws
import Derived.Sort.Grow
import Derived.Test.YtcefbdknoelacaaChecked
import Derived.Test.YtcefbdknoelacaaProg
import Derived.WideShapes
import Derived.Test.YtcefbdknoelacaaCTopCodesAreTold2
-- YtcefbdknoelacaaFn4
set_option linter.unusedVariables false
set_option linter.unusedSimpArgs false
namespace Go.Proofs.Ytcefbdknoelacaa.A
open Go
section
variable {P : Program} {B : Base} {m m' m0 : Md} {H H' : Hp} {w w' : World} {o : Oper} {a : Act} {E : Env} {tab : Nat → Option TI} {N : Nat}

structure PInv (B : Base) (Z : Nat → Prop) (w : World) (vals : Nat → Value) (t0 : Nat) (m : Md) (es : List (Nat × AV)) (hs : List (Nat × Cell)) (F : List Nat) : Prop where
 h : HOk B m (ofL .absent hs) w
 z : m.Z = Z
 t : ∀ k, AVRep m w (ofL .absent hs) (ofL .junk es k) (vals k)
 own : ∀ k, (ofL .absent hs k).Live → ∀ b ∈ m.ft k, b ∈ F
 ks : ∀ k ∈ hs.map (·.1), ∃ t, t0 ≤ t ∧ k = headId t
theorem pinv_put {m : Md} {H : Hp} {es : List (Nat × AV)} {vals : Nat → Value} (h : ∀ t, AVRep m w H (ofL .junk es t) (vals t)) {t0 : Nat} {v : AV} (hv : AVRep m w H v (vals t0)) (t : Nat) : AVRep m w H (ofL .junk ((t0, v) :: es) t) (vals t) := by
 rw [ofL_cons]
 by_cases ht : t = t0
 ·subst ht; rw [upd_same]; exact hv
 ·rw [upd_other _ _ ht]; exact h t
theorem par_plain {t : Nat} {τ : Ty} {x : τ.den} (h : τ.vecP = false) (hp : τ.pure = true) : parAV t false τ x = (.val (!τ.one) (flat τ x), []) := by
 cases τ <;> first | rfl | cases hp
theorem pars_ok {Z : Nat → Prop} (h0 : ∀ m : Md, m.Z = Z → HOk B m (fun _ => .absent) w) {vals : Nat → Value} : ∀ {ps : List (Bool × Ty)} {t : Nat} {x : (ps.foldr (fun p t => Ty.pair p.2 t) .unit).den} {vs : List Value} {F : List Nat},
 ArgsRep Z w ps x vs F → F.Nodup → (∀ b ∈ F, ¬ Z b ∧ b < w.heap.size ∧ (b < B.w.heap.size → b ∈ B.F)) → (ps.all fun p => p.1 || p.2.pure || p.2.vecP) = true → (∀ (i : Nat) (v : Value), vs[i]? = some v → vals (t + i) = v) →
 ∃ m, PInv B Z w vals t m (pars t ps x).1 (pars t ps x).2 F
 | [], t, x, vs, F, _, _, _, _, _ => ⟨{ Z := Z, hd := fun _ => undef, ft := fun _ => [] }, h0 _ rfl, rfl, fun _ => trivial, fun _ h => h.elim, by simp [pars]⟩
 | (io, τ) :: ps, t, x, vs, F, ⟨v, vs', F1, F2, h1, h2, h3, h4⟩, hn, hF, hk, hv => by
  subst h1; subst h2
  rw [List.all_cons, Bool.and_eq_true] at hk
  rw [List.nodup_append] at hn
  obtain ⟨m, K⟩ := pars_ok h0 (t := t + 1) h4 hn.2.1 (fun b hb => hF b (by simp [hb])) hk.2 (fun i v hi => by have := hv (i + 1) v (by simpa using hi); rwa [show t + (i + 1) = t + 1 + i by omega] at this)
  have hval : vals t = v := hv 0 v (by simp)
  have hfresh : ofL .absent (pars (t + 1) ps x.2).2 (headId t) = .absent := ofL_absent _ fun hm => by
   obtain ⟨t', h1, h2⟩ := K.ks _ hm
   have := headId_inj h2
   omega
  -- an object under this place's name
  have obj : ∀ {ob : Obj} {hdr : Value} {av : AV}, ORep Z w ob hdr F1 → parAV t io τ x.1 = (av, [(headId t, .live ob)]) → (∀ (m1 : Md) (H1 : Hp), m1.hd (headId t) = hdr → H1 (headId t) = .live ob → AVRep m1 w H1 av (vals t)) → ∃ m, PInv B Z w vals t m (pars t ((io, τ) :: ps) x).1 (pars t ((io, τ) :: ps) x).2 (F1 ++ F2) := by
   intro ob hdr av hr hp hav
   obtain ⟨q1, q2⟩ := K.h.add hfresh (by rw [K.z]; exact hr) hn.1 (fun b hb => by rw [K.z]; exact hF b (by simp [hb])) (fun j hj b hb hb' => hn.2.2 b hb' b (K.own j hj b hb) rfl)
   refine ⟨m.set (headId t) hdr F1, ?_⟩
   simp only [pars, hp, List.singleton_append]
   refine ⟨q1, K.z, pinv_put (fun k => (K.t k).evo q2) (hav _ _ (by simp only [Md.set]; rw [upd_same]) (upd_same _ _ _)), fun k hk b hb => ?_, fun k hk => ?_⟩
   ·by_cases hk0 : k = headId t
    ·subst hk0
     simp only [Md.set] at hb
     rw [upd_same] at hb
     simp [hb]
    ·rw [ofL_cons, upd_other _ _ hk0] at hk
     simp only [Md.set] at hb
     rw [upd_other _ _ hk0] at hb
     simp [K.own k hk b hb]
   ·simp only [List.map_cons, List.mem_cons] at hk
    rcases hk with rfl | hk
    ·exact ⟨t, Nat.le_refl _, rfl⟩
    ·obtain ⟨t', h1, h2⟩ := K.ks k hk
     exact ⟨t', by omega, h2⟩
  cases io with
  | true =>
   obtain ⟨b, el, cs, F', e1, e2, e3, e4⟩ := h3
   refine obj (ob := .cells 0 (flat τ x.1)) (hdr := .pointer (some ⟨b, 0, none⟩)) ⟨b, el, cs, F', rfl, e2, e3, flat_ok e4⟩ rfl fun m1 H1 h1 h2 => one_val ⟨by rw [h2]; simp, fun _ _ _ => ⟨b, h1, by rw [hval, e1]⟩⟩
  | false =>
   obtain ⟨cs, e1, e2⟩ := h3
   have hk1 : (τ.pure || τ.vecP) = true := by simpa using hk.1
   by_cases hve : τ.vecP = true
   ·cases τ with
    | vec e =>
     have e1 : cs = [v] := e1
     subst e1
     exact obj (ob := .row e x.1) (hdr := v) e2 rfl fun m1 H1 h1 h2 => one_val ⟨by rw [h2]; simp, fun _ _ _ => by rw [hval, h1], fun _ _ _ => by rw [hval, h1]⟩
    | _ => cases hve
   ·have hve : τ.vecP = false := by simpa using hve
    rw [hve, Bool.or_false] at hk1
    have hF1 := e2.pure hk1
    subst hF1
    refine ⟨m, ?_⟩
    simp only [pars, par_plain hve hk1, List.nil_append]
    refine ⟨K.h, K.z, pinv_put K.t ⟨cs, by rw [hval]; exact e1, flat_all2 (by rw [K.z]; exact e2)⟩, K.own, fun k hk => ?_⟩
    obtain ⟨t', h1, h2⟩ := K.ks k hk
    exact ⟨t', by omega, h2⟩

def resRun (tmps : Array Value) : ResultVar → Sem Value
 | .tmp t => pure (tmps.getD t undef)
 | .cell a t => do loadVar t (← asAddr (tmps.getD a undef))
theorem resVal_ok (hT : TabOk P tab) (s : St B m E H a w) {rv : ResultVar} {p : Bool × List LV} (h : resVal tab H E rv = some p) : ∃ u, (resRun a.tmps rv).run P w = .ok u w ∧ PRep m w H p u := by
 cases rv with
 | tmp t =>
  simp only [resVal] at h
  split at h
  ·rename_i g ls he
   cases h
   have := s.t t
   rw [he] at this
   exact ⟨_, by simp [resRun], this⟩
  ·cases h
 | cell ad t =>
  simp only [resVal] at h
  split at h
  ·rename_i i id hi he
   split at h
   ·rename_i g ls hx
    split at h
    ·rename_i hl
     cases h
     have hl := Nat.eq_of_beq_eq_true hl
     have ht := s.t ad
     rw [he] at ht
     obtain ⟨b, q1, q2⟩ := ht.one.2 _ _ hx
     have hc := s.h.cr id
     rw [hx] at hc
     obtain ⟨b', el, cs, F', k1, k2, k3, k4⟩ := hc
     rw [k1] at q1; cases q1
     have hcell : ∀ (j : Nat) (u : Value), cs[j]? = some u → w.cell? ⟨b, 0 + j, none⟩ = some u := fun j u hu => by
      simp only [World.cell?, k3]
      simpa using hu
     have hls := outLeaves_ok (m := m) (w := w) hx k1 0 k4 (fun j l hj => by simpa using hj) hcell
     have hlen : cs.length = i.ty.cells := by rw [k4.len (sz := 1) ol1_len, Nat.mul_one, hl]
     obtain ⟨v, r1, r2⟩ := load_ok (P := P) (w := w) hT hi (b := b) (p := 0) hlen hcell
     refine ⟨v, ?_, cs, r2, hls⟩
     simp only [resRun, q2, asAddr, Sem.run_bind, Sem.run_pure, Result.andThen_ok]
     simpa [Instr.loadAt, Instr.sureAddr] using r1
    ·cases h
   ·cases h
  ·cases h
theorem resVals_ok (hT : TabOk P tab) (s : St B m E H a w) : ∀ {rvs : List ResultVar} {rs : List (Bool × List LV)}, resVals tab H E rvs = some rs → ∃ us, (rvs.mapM (resRun a.tmps)).run P w = .ok us w ∧ All2 (PRep m w H) rs us
 | [], _, h => by cases h; exact ⟨[], by simp, trivial⟩
 | rv :: rvs, rs, h => by
  simp only [resVals] at h
  split at h
  ·rename_i p ps h1 h2
   cases h
   obtain ⟨u, u1, u2⟩ := resVal_ok hT s h1
   obtain ⟨us, v1, v2⟩ := resVals_ok hT s h2
   refine ⟨u :: us, ?_, u2, v2⟩
   simp [List.mapM_cons, u1, v1]
  ·cases h
theorem results_run {fn : Func} {us : List Value} (h : (fn.results.toList.mapM (resRun a.tmps)).run P w = .ok us w) : (results fn a.tmps).run P w = .ok (tupOf us) w := by
 have e : results fn a.tmps = (do let vs ← fn.results.mapM (resRun a.tmps); pure (if h : vs.size = 1 then vs[0] else .tuple vs)) := by
  unfold results
  congr 1
 rw [e, Array.mapM_eq_mapM_toList]
 simp only [Sem.run_bind, map_eq_pure_bind, h, Result.andThen_ok, Sem.run_pure]
 congr 1
 match us with
 | [] => rfl
 | [u] => rfl
 | u :: v :: us => simp [tupOf]
theorem resIn_ok {Zf : Nat → Prop} (hh : HOk B m H w) (hz : ∀ b, m.Z b → Zf b) : ∀ {outs : List Ty} {rs : List (Bool × List LV)} {us : List Value} {x : (outs.foldr Ty.pair .unit).den}, resIn H outs rs = some x → All2 (PRep m w H) rs us →
 (∀ id ∈ resRds outs rs, (H id).Live → ∀ b ∈ m.ft id, Zf b) → ResL Zf w outs x us ((resOwns outs rs).flatMap m.ft) ∧ ∀ id ∈ resOwns outs rs, (H id).Live
 | [], [], us, x, _, hv, _ => by
  have : us = [] := by cases us with | nil => rfl | cons _ _ => exact hv.elim
  subst this
  exact ⟨⟨rfl, rfl⟩, by simp [resOwns]⟩
 | [], _ :: _, _, _, h, _, _ => by cases h
 | _ :: _, [], _, _, h, _, _ => by cases h
 | τ :: outs, p :: rs, [], _, _, hv, _ => hv.elim
 | τ :: outs, p :: rs, u :: us, x, h, hv, hr => by
  simp only [resIn] at h
  split at h
  ·rename_i y ys hy hys
   cases h
   obtain ⟨g1, g2⟩ := resIn_ok hh hz hys hv.2 fun id hid => hr id (by simp [resRds, hid])
   obtain ⟨k1, k2⟩ := ownIn_ok (Sub.refl H) hh hz hy hv.1 fun id hid => hr id (by simp [resRds, hid])
   refine ⟨⟨u, us, _, _, rfl, ?_, k1, g1⟩, fun id hid => ?_⟩
   ·simp [resOwns, List.flatMap_append]
   ·simp only [resOwns, List.mem_append] at hid
    exact hid.elim (k2 id) (g2 id)
  ·cases h
theorem splitRes_join : ∀ {outs more : List Ty} {x : (outs.foldr Ty.pair .unit).den} {y : (more.foldr Ty.pair .unit).den}, splitRes outs more (joinRes outs more x y) = (x, y)
 | [], _, _, _ => rfl
 | τ :: outs, more, x, y => by
  simp only [joinRes, splitRes, splitRes_join]
  rfl

theorem io_end {Zf : Nat → Prop} (s : St B m E H a w) (hz : ∀ b, m.Z b → Zf b) {fv : Nat → Value} : ∀ {ps : List (Bool × Ty)} {t : Nat} {ids : List Nat} {x : (((ps.filter (·.1)).map (·.2)).foldr Ty.pair .unit).den} {vs : List Value},
 ioIdsOf E (iosOf t ps) = some ids → ioOut H ((ps.filter (·.1)).map (·.2)) ids = some x → (∀ i ∈ iosOf t ps, a.tmps.getD i undef = fv i) → (∀ i, i < ps.length → vs[i]? = some (fv (t + i))) →
 IoRep Zf w ps x vs (ids.flatMap m.ft) ∧ ∀ id ∈ ids, (H id).Live
 | [], t, ids, x, vs, h1, h2, _, _ => by
  cases h1
  exact ⟨rfl, by simp⟩
 | (false, τ) :: ps, t, ids, x, vs, h1, h2, h3, h4 => by
  refine io_end (ps := ps) (t := t + 1) s hz h1 h2 h3 fun i hi => ?_
  have := h4 (i + 1) (by simp; omega)
  rw [List.getElem?_tail, this]
  congr 2; omega
 | (true, τ) :: ps, t, ids, x, vs, h1, h2, h3, h4 => by
  simp only [iosOf, ioIdsOf] at h1
  split at h1
  ·rename_i id ids' he hi
   cases h1
   have h2 : ioOut H (τ :: ((ps.filter (·.1)).map (·.2))) (id :: ids') = some x := h2
   simp only [ioOut] at h2
   split at h2
   ·rename_i g ls y hx hy
    split at h2
    ·rename_i z hz'
     cases h2
     obtain ⟨g1, g2⟩ := io_end (ps := ps) (t := t + 1) (vs := vs.tail) s hz hi hy (fun i hi => h3 i (by simp [iosOf, hi])) (fun i hi => by
      have := h4 (i + 1) (by simp; omega)
      rw [List.getElem?_tail, this]
      congr 2; omega)
     have ht := s.t t
     rw [he, h3 t (by simp [iosOf])] at ht
     obtain ⟨b, e1, e2⟩ := ht.one.2 _ _ hx
     have hL : (H id).Live := by rw [hx]; trivial
     have hc := s.h.cr id
     rw [hx] at hc
     obtain ⟨b', el, cs, F', k1, k2, k3, k4⟩ := hc
     rw [k1] at e1; cases e1
     have hv0 := h4 0 (by simp)
     refine ⟨⟨b, el, cs, F', _, ?_, ?_, k3, Rep.frame (fun _ _ => rfl) hz (fun _ _ => rfl) (asmAllO hz' k4), g1⟩, fun i hi => ?_⟩
     ·rw [List.head?_eq_getElem?, hv0, Nat.add_zero, e2]
     ·rw [List.flatMap_cons, k2]
     ·rcases List.mem_cons.1 hi with rfl | hi
      ·exact hL
      ·exact g2 i hi
    ·cases h2
   ·cases h2
  ·cases h1

theorem fin_ok (hT : TabOk P tab) {fn : Func} {F : FunE} {Z : Nat → Prop} {w0 : World} {Fs : List Nat} {vs : List Value} (hB : B = { w := w0, F := Fs, Z := Z, fx := iosOf 0 F.ins, fv := fun i => vs.getD i undef }) (hlen : vs.length = F.ins.length) {r : ((F.outs ++ (F.ins.filter (·.1)).map (·.2)).foldr Ty.pair .unit).den} :
 KonOk P B N r (bodyPost P fn fun e w' => ∃ v Z' us Fr Fi, e = .returned v ∧ Post Z w0 Fs F vs r v w' Z' us Fr Fi) (finOf tab F.outs ((F.ins.filter (·.1)).map (·.2)) fn.results.toList (iosOf 0 F.ins)) := by
 subst hB
 intro x E H a w ⟨m, s, hN, hf⟩ h
 have key : finOf tab F.outs ((F.ins.filter (·.1)).map (·.2)) fn.results.toList (iosOf 0 F.ins) .normal E H = some r → a.defers = [] ∧ ∃ v, (results fn a.tmps).run P w = .ok v w ∧ ∃ v' Z' us Fr Fi, Ending.returned v = .returned v' ∧ Post Z w0 Fs F vs r v' w Z' us Fr Fi := by
  intro h
  refine ⟨s.d, ?_⟩
  simp only [finOf] at h
  split at h
  ·rename_i rs ios hrs hios
   split at h
   ·rename_i xa xb hxa hxb
    split at h
    ·rename_i hck
     cases h
     simp only [Bool.and_eq_true] at hck
     obtain ⟨c1, c2⟩ := hck
     have c1 := nodupN_iff.1 c1
     have c2 : ∀ i ∈ resRds F.outs rs, i ∉ resOwns F.outs rs ++ ios := fun i hi => by
      have := List.all_eq_true.1 c2 i hi
      exact memN_false.1 (by simpa using this)
     obtain ⟨us, u1, u2⟩ := resVals_ok hT s hrs
     let Zf : Nat → Prop := fun b => m.Z b ∨ ∃ id ∈ resRds F.outs rs, (H id).Live ∧ b ∈ m.ft id
     obtain ⟨r1, r2⟩ := resIn_ok (Zf := Zf) s.h (fun b hb => .inl hb) hxa u2 (fun id hid hl b hb => .inr ⟨id, hid, hl, hb⟩)
     obtain ⟨i1, i2⟩ := io_end (Zf := Zf) (fv := fun i => vs.getD i undef) (ps := F.ins) (t := 0) (vs := vs) s (fun b hb => .inl hb) hios hxb (fun i hi => hf i hi) (fun i hi => by
      rw [Nat.zero_add, List.getD_eq_getElem?_getD, List.getElem?_eq_getElem (by omega)]; rfl)
     have hlive : ∀ id ∈ ios ++ resOwns F.outs rs, (H id).Live := fun id hid => (List.mem_append.1 hid).elim (i2 id) (r2 id)
     have hnd : (ios ++ resOwns F.outs rs).Nodup := by
      rw [List.nodup_append] at c1 ⊢
      exact ⟨c1.2.1, c1.1, fun x hx y hy e => c1.2.2 y hy x hx e.symm⟩
     refine ⟨_, results_run u1, _, Zf, us, (resOwns F.outs rs).flatMap m.ft, ios.flatMap m.ft, rfl, s.h.kp, fun b hb => .inl (s.h.zs b hb), fun b hb => ?_, fun b hb hlt => ?_, ?_, rfl, ?_, ?_, fun b hb => ?_⟩
     ·exact hb.elim (s.h.zl b) fun ⟨i, _, h2, h3⟩ => (s.h.nz i h2 b h3).2.1
     ·exact hb.elim (fun hb => s.h.zi b hb hlt) fun ⟨i, _, h2, h3⟩ => .inr ((s.h.nz i h2 b h3).2.2 hlt)
     ·rw [splitRes_join]; exact r1
     ·rw [splitRes_join]; exact i1
     ·rw [← List.flatMap_append]; exact ft_nodup s.h hnd hlive
     ·rw [← List.flatMap_append] at hb
      obtain ⟨i, h1, h2, h3⟩ := ft_blk hb hlive
      obtain ⟨n1, n2, n3⟩ := s.h.nz i h2 b h3
      refine ⟨fun hz => hz.elim n1 fun ⟨j, j1, j2, j3⟩ => ?_, n2, n3⟩
      have hij : i ≠ j := fun e => c2 j j1 (by rw [← e]; rw [List.mem_append] at h1 ⊢; exact h1.symm)
      exact s.h.sp i j hij h2 j2 b h3 j3
    ·cases h
   ·cases h
  ·cases h
 cases x with
 | normal => exact key h
 | ret => exact key h
 | _ => cases h

theorem ArgsRep.len {Z : Nat → Prop} {w : World} : ∀ {ps : List (Bool × Ty)} {x : (ps.foldr (fun p t => Ty.pair p.2 t) .unit).den} {vs : List Value} {F : List Nat}, ArgsRep Z w ps x vs F → vs.length = ps.length
 | [], _, _, _, h => by rw [h.1]; rfl
 | _ :: _, _, _, _, ⟨v, vs', F1, F2, h1, h2, h3, h4⟩ => by rw [h1, List.length_cons, h4.len]; rfl

def fnOkB (fn : Func) (ins : List (Bool × Ty)) : Bool :=
 codeOkB fn.ntmps (iosOf 0 ins) (bodyOf fn) && fn.body.isSome && Nat.ble ins.length fn.ntmps && ins.all fun p => p.1 || p.2.pure || p.2.vecP
theorem fnE_ok (hm : P.follows .mixedOrders = true) (hT : TabOk P tab) {f : FuncId} {fn : Func} (hf : P.funcs[f]? = some fn) {T : Nat → Nat → Option FunE} {ann : Nat → Option (List Keep)} {ins : List (Bool × Ty)} {outs : List Ty} {n : Nat} (hW : ∀ k, k ≤ n → WaysOk P tab (T k)) (hk : fnOkB fn ins = true) : FunOk P f (fnE tab T ann fn ins outs n) := by
 intro Z w xs vs Fs r hZ hA hn hFs hr
 simp only [fnOkB, Bool.and_eq_true] at hk
 obtain ⟨⟨⟨k1, k2⟩, k3⟩, k4⟩ := hk
 have k3 := Nat.le_of_ble_eq_true k3
 obtain ⟨c, hc⟩ := Option.isSome_iff_exists.1 k2
 have hbody : bodyOf fn = c := by unfold bodyOf; rw [hc]; rfl
 have hlen : vs.length = ins.length := hA.len
 let B : Base := { w := w, F := Fs, Z := Z, fx := iosOf 0 ins, fv := fun i => vs.getD i undef }
 have h0 : ∀ m : Md, m.Z = Z → HOk B m (fun _ => .absent) w := fun m hmz => ⟨fun b hb => hZ b (by rw [← hmz]; exact hb), fun b hb => (by rw [hmz]; exact hb), fun b hb _ => .inl (by rw [hmz] at hb; exact hb), fun _ => trivial, fun _ h => h.elim, fun _ _ _ h => h.elim, fun _ h => h.elim, Kept.refl _ _⟩
 have htm : ∀ k, ((vs.toArray ++ Array.replicate (fn.ntmps - vs.toArray.size) undef).getD k undef) = vs.getD k undef := fun k => by
  rw [Array.getD_eq_getD_getElem?, List.getD_eq_getElem?_getD, Array.getElem?_append]
  simp only [List.size_toArray]
  by_cases hk : k < vs.length
  ·rw [if_pos hk]; simp
  ·rw [if_neg hk, List.getElem?_eq_none (by omega)]
   simp only [Array.getElem?_replicate]
   split <;> rfl
 obtain ⟨m, K⟩ := pars_ok (B := B) (Z := Z) (w := w) h0 (vals := fun k => vs.getD k undef) (t := 0) hA hn (fun b hb => ⟨(hFs b hb).1, (hFs b hb).2, fun _ => hb⟩) k4 (fun i v hi => by simp [List.getD_eq_getElem?_getD, hi])
 refine calls_of_wp hf hc ?_
 have s : SE B fn.ntmps (ofL .junk (pars 0 ins xs).1) (ofL .absent (pars 0 ins xs).2) { tmps := vs.toArray ++ Array.replicate (fn.ntmps - vs.toArray.size) undef, defers := [] } w := by
  refine ⟨m, ⟨K.h, fun t => ?_, rfl⟩, ?_, fun i _ => htm i⟩
  ·rw [htm]; exact K.t t
  ·simp only [Array.size_append, List.size_toArray, Array.size_replicate]; omega
 have hfin := fin_ok (P := P) (B := B) (N := fn.ntmps) hT (fn := fn) (F := fnE tab T ann fn ins outs n) (Z := Z) (w0 := w) (Fs := Fs) (vs := vs) rfl hlen (r := r)
 have hL := runN_ok (P := P) (B := B) (N := fn.ntmps) (r := r) hm (T := T) (ann := ann) hfin n (fun k hk => hW k (by omega))
 have hcl := clos_ok (ann := ann) hm (hW n (Nat.le_refl _)) hL hfin [] rfl
 have := runS_ok hm (hW n (Nat.le_refl _)) hL (bodyOf fn) [] _ _ _ _ _ k1 rfl hcl s hr
 rw [hbody] at this
 exact this
theorem FunOk.spec {f : FuncId} {F : Nat → FunE} {ins : List (Bool × Ty)} {outs : List Ty} {g : (ins.foldr (fun p t => Ty.pair p.2 t) .unit).den → Option ((outs ++ (ins.filter (·.1)).map (·.2)).foldr Ty.pair .unit).den} (hF : ∀ n, FunOk P f (F n)) (hi : ∀ n, (F n).ins = ins) (ho : ∀ n, (F n).outs = outs) : True := trivial
end
end Go.Proofs.Ytcefbdknoelacaa.A

-- YtcefbdknoelacaaFn5
set_option linter.unusedVariables false
set_option linter.unusedSimpArgs false
namespace Go.Proofs.Ytcefbdknoelacaa.A
open Go
def RowOk (P : Program) (f : FuncId) (e : Ty) (g : List e.den → Option (List e.den)) : Prop := ∀ (Z : Nat → Prop) (w : World) (xs ys : List e.den) (v : Value) (F : List Nat),
 (∀ b, Z b → b < w.heap.size) → Rep Z w (.vec e) xs [v] F → F.Nodup → (∀ b ∈ F, ¬ Z b ∧ b < w.heap.size) → g xs = some ys →
 Calls P f #[v] w fun ex w' => ex = .returned (.tuple #[]) ∧ Kept F w w' ∧ ys.length = xs.length ∧ Rep Z w' (.vec e) ys [v] F
structure FunC (P : Program) (f : FuncId) (F : FunE) : Prop where
 ok' : F.row = none → FunOk P f F
 ro : ∀ e g, F.row = some ⟨e, g⟩ → RowOk P f e g
 en : ∃ fn, P.funcs[f]? = some fn ∧ (fn.name == "runtime.NumGoroutine") = false ∧ fn.body.isNone = false
def TOk (P : Program) (T : Nat → Option FunE) : Prop := ∀ f F, T f = some F → FunC P f F
section
variable {P : Program} {B : Base} {m m' m0 : Md} {H H' : Hp} {w w' : World} {o : Oper} {a : Act} {E : Env} {tab : Nat → Option TI} {T : Nat → Option FunE} {N : Nat}

theorem wCallRow_ok {e : Ty} {g : List e.den → Option (List e.den)} {f : FuncId} (hF : RowOk P f e g) (hh : HOk B m H w) {as_ : List AV} {vs : List Value} (hv : All2 (AVRep m w H) as_ vs) (ex : (execOp a.eval o).run P w = .ok (.enter f vs.toArray) w) : WayOk P B m H w o a (wCallRow e g as_) := by
 unfold wCallRow
 split
 ·rename_i id
  match vs, hv with
  | [v], hv =>
   intro Q hQ
   simp only at hQ
   split at hQ
   ·rename_i e' xs hx
    split at hQ
    ·rename_i xs' hc
     obtain ⟨he, hxs⟩ := castTo_eq hc
     cases he
     have hxs : xs = xs' := hxs
     subst hxs
     obtain ⟨ys, hy, hQ⟩ := hQ
     have hQ : Q _ := hQ
     have hx := live_of_only hx
     have hL : (H id).Live := by rw [hx]; trivial
     have hcr := hh.cr id
     rw [hx] at hcr
     have hvd := hv.1.one.2.1 _ _ hx
     subst hvd
     refine ⟨_, _, hQ, ?_⟩
     unfold OpOk
     rw [ex]
     refine (hF m.Z w xs ys _ _ hh.zl hcr (hh.nd id hL) (fun b hb => ⟨(hh.nz id hL b hb).1, (hh.nz id hL b hb).2.1⟩) hy).mono fun e' w' ⟨h1, h2, h3, h4⟩ => ⟨_, h1, ?_⟩
     have hput := putH_cons H id (.live (.row e ys)) [] (by simp)
     have ch : Change B m H w (id :: []) (m.set id (m.hd id) (m.ft id)) (putH H ((id, .live (.row e ys)) :: deads [])) w' :=
      Change.one (w' := w') (ob := .row e ys) hh (by simp) (by simp) h2.os h2.tape h2.output h2.size (fun b hb hnB => h2.block b hb fun hbF => hnB ⟨id, by simp, hL, hbF⟩) h4 (fun z hz => ⟨(hh.nz id hL z hz).1, .inl ⟨id, by simp, hL, hz⟩⟩) (hh.nd id hL) (fun _ => EvoAt.row_ hx hput h3.symm (by simp only [Md.set]; rw [upd_same]))
     exact ⟨_, hh.change ch, hh.evo ch, ⟨[], rfl, trivial⟩⟩
    ·exact hQ.elim
   ·exact hQ.elim
 ·exact WayOk.fail

theorem enter_exec {c : Call} (ho : o.op = .call c) {x : Operand} (hc : c.callee = .value x) {f : FuncId} (hx : a.eval x = .func (.func f) #[] #[]) (hen : ∃ fn, P.funcs[f]? = some fn ∧ (fn.name == "runtime.NumGoroutine") = false ∧ fn.body.isNone = false) :
 (execOp a.eval o).run P w = .ok (.enter f (c.args.map a.eval)) w := by
 obtain ⟨fn, h1, h2, h3⟩ := hen
 simp only [execOp, ho, resolve, hc, hx]
 have h2 : ¬ fn.name = "runtime.NumGoroutine" := by simpa using h2
 have h3 : ¬ fn.body = none := fun hh => by rw [hh] at h3; cases h3
 simp [Deferred.ofValue, invoke, callFunc, h1, h2, h3]
theorem all2_args (s : St B m E H a w) : ∀ {xs : List Operand}, (∀ x ∈ xs, opndOkB x = true) → All2 (AVRep m w H) (xs.map (evalO E)) (xs.map a.eval)
 | [], _ => trivial
 | x :: xs, h => ⟨evalO_ok s (h x (by simp)), all2_args s fun y hy => h y (by simp [hy])⟩
theorem wCall_ok (hT : TabOk P tab) (hC : TOk P T) (s : St B m E H a w) {c : Call} (ho : o.op = .call c) (hx : ∀ x ∈ c.operands, opndOkB x = true) :
 WayOk P B m H w o a (wCall tab T o.dst c (c.args.toList.map (evalO E)) (match c.callee with | .value f => some (evalO E f) | _ => none)) := by
 have hargs := all2_args s (xs := c.args.toList) fun x h => hx x (by simp [Call.operands]; exact .inr (by simpa using h))
 have hmap : (c.args.map a.eval).toList = c.args.toList.map a.eval := by simp
 have hmap' : c.args.map a.eval = (c.args.toList.map a.eval).toArray := by rw [← hmap]
 unfold wCall
 cases hc : c.callee with
 | invoke r n => exact WayOk.fail
 | value x =>
  simp only
  split
  ·rename_i f u he
   split
   ·rename_i F hF
    have hfc := hC f F (by simpa using hF)
    simp only [Option.some.injEq] at he
    have hev := evalO_ok s (hx x (by simp [Call.operands, hc]))
    rw [he] at hev
    have hfv : a.eval x = .func (.func f) #[] #[] := by
     have := hev.one
     obtain ⟨h1, _⟩ := (this : [a.eval x] = [.func (.func f) #[] #[]] ∧ _)
     simpa using h1
    split
    ·rename_i q hq
     exact wCallRow_ok (hfc.ro _ _ hq) s.h hargs (by rw [enter_exec ho hc hfv hfc.en, hmap'])
    ·rename_i hq
     exact wCallF_ok (hfc.ok' hq) s.h hargs (by rw [enter_exec ho hc hfv hfc.en, hmap'])
   ·exact WayOk.fail
  ·exact WayOk.fail
 | builtin b =>
  cases b <;> simp only <;> try exact WayOk.fail
  case len =>
   split
   ·rename_i x hxs hsz
    have hsz := Nat.eq_of_beq_eq_true hsz
    match hc1 : c.args.toList, hxs, hargs with
    | [y], hxs, hargs =>
     simp only [List.map_cons, List.map_nil, List.cons.injEq, and_true] at hxs
     subst hxs
     rw [hc1] at hmap'
     have h1 := hargs.1
     refine wLen_ok hT s.h h1 fun n hn => exec_call_builtin ho hc ?_
     have hts : c.argTypes = #[c.argTypes.getD 0 0] := by
      apply Array.ext
      ·simpa using hsz
      ·intro i h1 h2
       have : i = 0 := by omega
       subst this
       simp [Array.getD, h1]
     generalize c.argTypes.getD 0 0 = t at hts hn
     rw [hts]
     simp only [builtin, hmap', List.map_cons, List.map_nil]
     rw [show ([a.eval y] : List Value).toArray = #[a.eval y] from rfl]
     simp only [Sem.run_bind, hn, Result.andThen_ok, Sem.run_pure]
   ·exact WayOk.fail
  case append =>
   split
   ·rename_i x y hxs
    match hc1 : c.args.toList, hxs, hargs with
    | [x1, y1], hxs, hargs =>
     simp only [List.map_cons, List.map_nil, List.cons.injEq, and_true] at hxs
     obtain ⟨rfl, rfl⟩ := hxs
     rw [hc1] at hmap'
     refine wAppend_ok hT s.h hargs.1 hargs.2.1 fun v w' hv => ?_
     simp only [execOp, ho, resolve, hc]
     simp only [Sem.run_bind, Sem.run_pure, Result.andThen_ok, invoke, builtin, hmap', List.map_cons, List.map_nil]
     rw [show ([a.eval x1, a.eval y1] : List Value).toArray = #[a.eval x1, a.eval y1] from rfl, hv]
     rfl
   ·exact WayOk.fail
  case max =>
   refine wMinMax_ok s.h hargs (fun x y => by unfold mxI; split <;> simp) max2_run fun x rest u hl hu => exec_call_builtin ho hc ?_
   simp only [builtin, Builtin.max_, hmap, hl, Sem.run_bind, hu, Result.andThen_ok, Sem.run_pure]
  case min =>
   refine wMinMax_ok s.h hargs (fun x y => by unfold mnI; split <;> simp) min2_run fun x rest u hl hu => exec_call_builtin ho hc ?_
   simp only [builtin, Builtin.min_, hmap, hl, Sem.run_bind, hu, Result.andThen_ok, Sem.run_pure]

theorem wayD_ok (hT : TabOk P tab) (B : Base) (m : Md) (H : Hp) (w : World) (a : Act) (E : Env) (o : Oper) (t : DT (AV × List (Nat × Cell))) (hx : o.op.operands.toList.all opndOkB = true) (s : St B m E H a w) (h : wayD tab E H o = some t) : WayDOk P B m H w o a t := by
 have hx : ∀ x ∈ o.op.operands, opndOkB x = true := fun x h => List.all_eq_true.1 hx x (by simpa using h)
 unfold wayD at h
 split at h
 ·cases h
 ·split at h
  ·rename_i ho
   exact nilWay_ok hT s.h (.inl ⟨rfl, ho⟩) (evalO_ok s (hx _ (by rw [ho]; simp [Op.operands]))) h
  ·rename_i ho
   exact nilWay_ok hT s.h (.inr ⟨rfl, ho⟩) (evalO_ok s (hx _ (by rw [ho]; simp [Op.operands]))) h
  ·rename_i ho
   exact nextWay_ok s.h ho (evalO_ok s (hx _ (by rw [ho]; simp [Op.operands]))) h
  ·cases h
theorem way_ok (hT : TabOk P tab) (hC : TOk P T) : WaysOk P tab T := by
 refine ⟨fun B m H w a E o hx s => ?_, wayD_ok hT⟩
 have hx : ∀ x ∈ o.op.operands, opndOkB x = true := fun x h => List.all_eq_true.1 hx x (by simpa using h)
 unfold way
 cases ho : o.op <;> (try simp only [ho, Op.operands] at hx) <;> (try simp only) <;> try exact WayOk.fail
 case move x => exact WayOk.val s.h (by simp only [execOp, ho, Sem.run_pure]) (evalO_ok s (hx x (by simp)))
 case assign x => exact WayOk.val s.h (by simp only [execOp, ho, Sem.run_pure]) (evalO_ok s (hx x (by simp)))
 case pick c x y => exact wPick_ok s.h ho (evalO_ok s (hx c (by simp))) (evalO_ok s (hx x (by simp))) (evalO_ok s (hx y (by simp)))
 case nilCheck x => exact wNilCheck_ok s.h ho (evalO_ok s (hx x (by simp)))
 case alloc t =>
  split
  ·rename_i i hi
   obtain ⟨inf, z, k1, k2, k3, k4, k5, k6⟩ := (hT t i hi).info
   refine wBox_ok (t := t) (v := .agg z.cells) s.h ⟨z.cells.toList, by simp [IsV], k6.mono fun _ _ h => h.l⟩ fun cs ⟨g, ls, h1, h2⟩ h3 => ?_
   cases h1
   have : z.cells = cs.toArray := by simpa [IsV] using h2
   rw [← this]
   exact alloc_exec ho k1 k4
  ·exact WayOk.fail
 case box t x =>
  refine wBox_ok (t := t) s.h (evalO_ok s (hx x (by simp))) fun cs ⟨g, ls, h1, h2⟩ h3 => box_exec ho (isV_cells h2 h3)
 case build t ps => exact wBuild_ok hT s.h ho (all2_parts s fun p hp => hx p.2 (by simp; exact ⟨p.1, by simpa using hp⟩))
 case buildSlice t n ps => exact wBuildSliceF_ok hT s.h ho (all2_parts s fun p hp => hx p.2 (by simp; exact ⟨p.1, by simpa using hp⟩))
 case load t x => exact wLoad_ok hT s.h ho (evalO_ok s (hx x (by simp)))
 case store t x y => exact wStore_ok hT s.h ho (evalO_ok s (hx x (by simp))) (evalO_ok s (hx y (by simp)))
 case binOp op t x y yt => exact wBin_ok hT s.h ho (evalO_ok s (hx x (by simp))) (evalO_ok s (hx y (by simp)))
 case unOp op t x => exact wUn_ok s.h ho (evalO_ok s (hx x (by simp)))
 case convert t d x => exact wConvert_ok hT s.h ho (evalO_ok s (hx x (by simp)))
 case makeSlice t x y => exact wMakeSlice_ok hT s.h ho (evalO_ok s (hx x (by simp))) (evalO_ok s (hx y (by simp)))
 case slice t x lo hi mx =>
  cases mx with
  | some _ => exact WayOk.fail
  | none => exact wSlice_ok hT s.h ho (evalO_ok s (hx x (by simp))) (optRep_map s fun y hy => hx y (by simp [hy])) (optRep_map s fun y hy => hx y (by simp [hy]))
 case fieldAddr t x f => exact wFieldAddr_ok hT s.h ho (evalO_ok s (hx x (by simp)))
 case field t x f => exact wField_ok hT s.h ho (evalO_ok s (hx x (by simp)))
 case indexAddr t x i => exact wIndexAddr_ok hT s.h ho (evalO_ok s (hx x (by simp))) (evalO_ok s (hx i (by simp)))
 case index t x i => exact wIndex_ok hT s.h ho (evalO_ok s (hx x (by simp))) (evalO_ok s (hx i (by simp)))
 case extract x n => exact wExtract_ok s.h ho (evalO_ok s (hx x (by simp)))
 case call c => exact wCall_ok hT hC s ho hx
 case makeMap t r =>
  cases r with
  | some _ => exact WayOk.fail
  | none => exact wMakeMap_ok hT s.h ho
 case insert t x k y => exact wMapUpdateF_ok hT s.h (.inr ho) (evalO_ok s (hx x (by simp))) (evalO_ok s (hx k (by simp))) (evalO_ok s (hx y (by simp)))
 case mapUpdate t x k y => exact wMapUpdateF_ok hT s.h (.inl ho) (evalO_ok s (hx x (by simp))) (evalO_ok s (hx k (by simp))) (evalO_ok s (hx y (by simp)))
 case range t x => exact wRange_ok hT s.h ho (evalO_ok s (hx x (by simp)))
 case entry x => exact wEntry_ok s.h ho (evalO_ok s (hx x (by simp)))
 case lookup t x k ok => exact wLookup_ok hT s.h ho (evalO_ok s (hx x (by simp))) (evalO_ok s (hx k (by simp)))
end
end Go.Proofs.Ytcefbdknoelacaa.A

-- YtcefbdknoelacaaOpn
set_option linter.unusedVariables false
set_option linter.unusedSimpArgs false
namespace Go.Proofs.Ytcefbdknoelacaa.A
open Go

def Ty.low : Ty → Nat
 | .bool => 1
 | .int k => k.bits / 8
 | .str => 16
 | .sl _ => 24
 | .pair a b => a.low + b.low
 | _ => 0
def okT : (τ : Ty) → τ.den → Prop
 | .int k, n => k.min ≤ n ∧ n ≤ k.max
 | .str, s => s.length ≤ 140737488351232
 | .sl e, xs => xs.length ≤ 140737488351232 ∧ xs.length * e.low ≤ 140737488351232 ∧ ∀ x ∈ xs, okT e x
 | .pair a b, x => okT a x.1 ∧ okT b x.2
 | _, _ => True
def fitB (P : Program) : Nat → Ty → Nat ⊕ (List Go.Field × Nat) → Bool
 | 0, _, _ => false
 | n + 1, τ, .inl t => (match P.underlying t, τ with
  | some .bool, .bool => true
  | some (.int k'), .int k => decide (k' = k)
  | some .string, .str => true
  | some (.slice et), .sl e => fitB P n e (.inl et) && Nat.beq (P.cellsOf et) e.cells && Nat.ble 1 e.cells && Nat.ble e.low (P.bytesOf et) && Nat.ble 1 (P.bytesOf et)
  | some (.struct fs), τ => Nat.beq (P.cellsOf t) τ.cells && fitB P n τ (.inr (fs.toList, 0))
  | _, _ => false)
 | n + 1, τ, .inr ([f], off) => Nat.beq f.offset off && fitB P n τ (.inl f.type) && Nat.beq (P.cellsOf f.type) τ.cells
 | n + 1, .pair a b, .inr (f :: g :: fs, off) => Nat.beq f.offset off && fitB P n a (.inl f.type) && Nat.beq (P.cellsOf f.type) a.cells && fitB P n b (.inr (g :: fs, off + a.cells))
 | _, _, _ => false

section
variable {P : Program} {w : World} {Z : Nat → Prop}
theorem list_of {α : Type} (p : Nat → α → Prop) : ∀ n : Nat, (∀ i, i < n → ∃ y, p i y) → ∃ l : List α, l.length = n ∧ ∀ i y, l[i]? = some y → p i y := by
 intro n
 induction n with
 | zero => intro _; exact ⟨[], rfl, fun i y h => by simp at h⟩
 | succ n ih =>
  intro h
  obtain ⟨l, hl, hp⟩ := ih (fun i hi => h i (by omega))
  obtain ⟨y, hy⟩ := h n (by omega)
  refine ⟨l ++ [y], by simp [hl], fun i z hz => ?_⟩
  by_cases hi : i < l.length
  ·exact hp i z (by rwa [List.getElem?_append_left hi] at hz)
  ·rw [List.getElem?_append_right (by omega)] at hz
   have hi2 : i - l.length < 1 := by
    rcases Nat.lt_or_ge (i - l.length) 1 with h | h
    ·exact h
    ·rw [List.getElem?_eq_none (by simpa using h)] at hz
     cases hz
   have e : i = n := by omega
   subst e
   rw [hl] at hz
   simp at hz
   subst hz
   exact hy
theorem weightsAll_mem {H : Type} {P : Program} {e : TypeId} {d : DataW H} : ∀ {l : List (DataW H)}, d ∈ l → ∀ n ∈ d.weights P e, n ∈ DataW.weightsAll P e l := by
 intro l
 induction l with
 | nil => intro h; cases h
 | cons a l ih =>
  intro h n hn
  rw [DataW.weightsAll, List.mem_append]
  rcases List.mem_cons.1 h with rfl | h
  ·exact .inl hn
  ·exact .inr (ih h n hn)
theorem int_wf {k : IntKind} {n : Int} (h : (Lit.int k n).wf = true) : k.min ≤ n ∧ n ≤ k.max := by
 simpa [Lit.wf] using h
theorem repL_of {e : Ty} {b o : Nat} : ∀ (l : List e.den) (k : Nat), (∀ (i : Nat) (y : e.den), l[i]? = some y → ∃ c, Rep Z w e y c [] ∧ ∀ (j : Nat) (u : Value), c[j]? = some u → w.cell? ⟨b, o + ((k + i) * e.cells + j), none⟩ = some u) →
 ∃ c, RepL (fun x c F => Rep Z w e x c F) l c [] ∧ ∀ (j : Nat) (u : Value), c[j]? = some u → w.cell? ⟨b, o + (k * e.cells + j), none⟩ = some u
 | [], k, _ => ⟨[], ⟨rfl, rfl⟩, by simp⟩
 | y :: l, k, h => by
  obtain ⟨c, h1, h2⟩ := h 0 y rfl
  obtain ⟨cs, g1, g2⟩ := repL_of l (k + 1) fun i z hz => by
   have := h (i + 1) z (by simpa using hz)
   rwa [show k + (i + 1) = k + 1 + i by omega] at this
  refine ⟨c ++ cs, ⟨c, cs, [], [], rfl, rfl, h1, g1⟩, fun j u hu => ?_⟩
  have hl := h1.len
  rw [List.getElem?_append] at hu
  split at hu
  ·exact h2 j u hu
  ·rename_i hj
   have := g2 _ u hu
   rwa [show o + ((k + 1) * e.cells + (j - c.length)) = o + (k * e.cells + j) by rw [Nat.succ_mul]; omega] at this

theorem fit_ok (hZ : ∀ b, b < w.heap.size → Z b) {H : Type} {enc : TypeId × Value → H} : ∀ (n : Nat) (τ : Ty) (q : Nat ⊕ (List Go.Field × Nat)), fitB P n τ q = true → match q with
 | .inl t => ∀ {fuel : Nat} {cs : List Value} {x : DataW H × List MemPlace}, DataW.trod enc P w 0 (fun _ => true) true fuel t cs = some x → (∀ n ∈ x.1.weights P t, n ≤ reachBytes) → ∃ y, Rep Z w τ y cs [] ∧ okT τ y
 | .inr (fs, off) => ∀ {fuel : Nat} {cs : List Value} {xs : List (DataW H × List MemPlace)}, xs.length = fs.length → cs.length = off + τ.cells →
  (∀ (i : Nat) (f : Go.Field), fs[i]? = some f → DataW.trod enc P w 0 (fun _ => true) true fuel f.type ((cs.drop f.offset).take (P.cellsOf f.type)) = xs[i]?) →
  (∀ m ∈ DataW.weightsEach P (fs.map (·.type)) (xs.map (·.1)), m ≤ reachBytes) → ∃ y, Rep Z w τ y (cs.drop off) [] ∧ okT τ y := by
 intro n
 induction n with
 | zero => intro τ q h; cases h
 | succ n ih =>
  intro τ q h
  cases q with
  | inl t =>
   intro fuel cs x hx hw
   simp only [fitB] at h
   split at h
   ·rename_i hu
    obtain ⟨b, rfl, _⟩ := DataW.trod_bool hu hx
    exact ⟨b, ⟨rfl, rfl⟩, trivial⟩
   ·rename_i k' k hu
    have hk : k' = k := by simpa using h
    subst hk
    obtain ⟨m, rfl, _, hm⟩ := DataW.trod_int hu hx
    exact ⟨m, ⟨rfl, rfl, int_wf hm⟩, int_wf hm⟩
   ·rename_i hu
    obtain ⟨s, rfl, rfl, hs⟩ := DataW.trod_string hu hx
    have := hw s.data.toList.length (by simp [DataW.weights])
    have hl : s.data.toList.length ≤ 140737488351232 := by simpa [reachBytes] using this
    exact ⟨s.data.toList, ⟨rfl, rfl, by unfold big; omega⟩, hl⟩
   ·rename_i et e hu
    simp only [Bool.and_eq_true] at h
    obtain ⟨⟨⟨⟨h1, h2⟩, h3⟩, h4⟩, h5⟩ := h
    have h2 := Nat.eq_of_beq_eq_true h2
    have h3 := Nat.le_of_ble_eq_true h3
    have h4 := Nat.le_of_ble_eq_true h4
    have h5 := Nat.le_of_ble_eq_true h5
    rcases DataW.trod_slice hu hx with ⟨rfl, rfl⟩ | ⟨a, len, cap, elems, rest, m, _, rfl, rfl, hb, hl, hm, hlen, hel, hsp, _⟩
    ·exact ⟨[], ⟨rfl, by simp, none, 0, rfl, by simp, .inl rfl⟩, by simp, by simp, by simp⟩
    ·have each : ∀ i, i < len → ∃ y, (∃ c, Rep Z w e y c [] ∧ ∀ (j : Nat) (u : Value), c[j]? = some u → w.cell? (a.add (i * e.cells + j)) = some u) ∧ okT e y := by
      intro i hi
      have h1' := hel i hi
      have hi2 : i < elems.length := by omega
      rw [List.getElem?_eq_getElem hi2, Option.bind_eq_some_iff] at h1'
      obtain ⟨c, hcs, hc2⟩ := h1'
      obtain ⟨_, hcl, hcc⟩ := World.cells?_some hcs
      obtain ⟨y, hy, ho⟩ := ih e (.inl et) h1 hc2 (fun m hm => hw m (by
       rw [DataW.weights]
       simp only [hu, List.mem_cons, List.mem_append]
       exact .inr (.inl (weightsAll_mem (List.mem_map_of_mem (f := Prod.fst) (List.getElem_mem hi2)) m hm))))
      refine ⟨y, ⟨c, hy, fun j u hu' => ?_⟩, ho⟩
      have hj : j < P.cellsOf et := by
       rcases Nat.lt_or_ge j c.length with h | h
       ·omega
       ·rw [List.getElem?_eq_none h] at hu'
        cases hu'
      have := hcc j hj
      rw [hu', Go.Addr.add_add, h2] at this
      exact this
     obtain ⟨l, hll, hp⟩ := list_of _ len each
     have hlb : len * P.bytesOf et ≤ 140737488351232 := by
      have h1 : ((elems.map (·.1)).length + (rest.map (·.1)).length) * P.bytesOf et ≤ reachBytes := hw _ (by
       rw [DataW.weights]
       simp only [hu]
       exact List.mem_cons_self)
      have h2 : len * P.bytesOf et ≤ ((elems.map (·.1)).length + (rest.map (·.1)).length) * P.bytesOf et := Nat.mul_le_mul_right _ (by simp; omega)
      simpa [reachBytes] using Nat.le_trans h2 h1
     have hl1 : len ≤ 140737488351232 := Nat.le_trans (by simpa using Nat.mul_le_mul_left len h5) hlb
     have hl2 : len * e.low ≤ 140737488351232 := Nat.le_trans (Nat.mul_le_mul_left len h4) hlb
     refine ⟨l, ⟨rfl, by unfold big; omega, some a, cap, by rw [hll], by omega, ?_⟩, by omega, by rw [hll]; exact hl2, fun x hx => ?_⟩
     ·by_cases hl0 : l = []
      ·exact .inl hl0
      ·right
       have h0 : 0 < l.length := List.length_pos_iff.2 hl0
       -- the first cell
       obtain ⟨⟨c, hc1, hc2⟩, _⟩ := hp 0 _ (List.getElem?_eq_getElem h0)
       have hc0 : 0 < c.length := by rw [hc1.len]; omega
       have hcell := hc2 0 _ (List.getElem?_eq_getElem hc0)
       rw [show a.add (0 * e.cells + 0) = a by simp [Go.Addr.add]] at hcell
       have hadd : a.spot = none ∧ a.block < w.heap.size := by
        obtain ⟨bb, oo, ss⟩ := a
        simp only [World.cell?] at hcell
        cases ss with
        | none =>
         refine ⟨rfl, ?_⟩
         cases hh : w.heap[bb]? with
         | none => rw [hh] at hcell; cases hcell
         | some ob => exact (Array.getElem?_eq_some_iff.1 hh).1
        | some s =>
         split at hcell
         ·simp at hcell
         ·cases hcell
       obtain ⟨bb, oo, ss⟩ := a
       obtain ⟨hs, hbb⟩ := hadd
       simp only at hs hbb
       subst hs
       obtain ⟨cc, g1, g2⟩ := repL_of (Z := Z) (w := w) (b := bb) (o := oo) l 0 fun i y hy => by
        obtain ⟨⟨c, k1, k2⟩, _⟩ := hp i y hy
        exact ⟨c, k1, fun j u hu => by have := k2 j u hu; rw [aad] at this; rwa [Nat.zero_add]⟩
       exact ⟨bb, oo, cc, rfl, hZ bb hbb, g1, fun j u hu => by have := g2 j u hu; rwa [Nat.zero_mul, Nat.zero_add] at this⟩
     ·obtain ⟨i, hi⟩ := List.getElem?_of_mem hx
      exact (hp i x hi).2
   ·rename_i fs hu
    simp only [Bool.and_eq_true] at h
    have hc := Nat.eq_of_beq_eq_true h.1
    obtain ⟨xs, m, _, rfl, hcl, hxl, hf⟩ := DataW.trod_struct hu hx
    have := ih _ (.inr (fs.toList, 0)) h.2 (fuel := m) (cs := cs) (xs := xs) (by simpa using hxl) (by rw [hcl, hc]; simp) (fun i f hi => hf i f (by simpa using hi)) (fun m hm => hw m (by
     rw [DataW.weights]
     simp only [hu]
     exact hm))
    simpa using this
   ·cases h
  | inr p =>
   obtain ⟨fs, off⟩ := p
   intro fuel cs xs hxs hcs hf hw
   match fs, hxs, hf, hw, h with
   | [], _, _, _, h => simp [fitB] at h
   | [f], hxs, hf, hw, h =>
    simp only [fitB, Bool.and_eq_true] at h
    obtain ⟨⟨h1, h2⟩, h3⟩ := h
    have h1 := Nat.eq_of_beq_eq_true h1
    have h3 := Nat.eq_of_beq_eq_true h3
    obtain ⟨x, rfl⟩ : ∃ x, xs = [x] := by
     match xs, hxs with
     | [x], _ => exact ⟨x, rfl⟩
    have hx := hf 0 f rfl
    rw [h1, List.take_of_length_le (by simp; omega)] at hx
    exact ih τ (.inl f.type) h2 hx (fun m hm => hw m (by simpa [DataW.weightsEach] using hm))
   | f :: g :: fs, hxs, hf, hw, h =>
    cases τ <;> try (simp [fitB] at h; done)
    rename_i a b _
    simp only [fitB, Bool.and_eq_true] at h
    obtain ⟨⟨⟨h1, h2⟩, h3⟩, h4⟩ := h
    have h1 := Nat.eq_of_beq_eq_true h1
    have h3 := Nat.eq_of_beq_eq_true h3
    match xs, hxs with
    | x :: xs, hxs =>
     have hx := hf 0 f rfl
     rw [h1] at hx
     obtain ⟨y, hy, hoy⟩ := ih a (.inl f.type) h2 (x := x) hx (fun m hm => hw m (by simp [DataW.weightsEach]; exact .inl hm))
     obtain ⟨z, hz, hoz⟩ := ih b (.inr (g :: fs, off + a.cells)) h4 (fuel := fuel) (cs := cs) (xs := xs) (by simpa using hxs) (by rw [hcs]; simp only [Ty.cells]; omega) (fun i f' hi => by have := hf (i + 1) f' (by simpa using hi); simpa using this) (fun m hm => hw m (by
      simp only [List.map_cons, DataW.weightsEach, List.mem_append]
      simp only [List.map_cons, DataW.weightsEach, List.mem_append] at hm
      exact .inr hm))
     refine ⟨(y, z), ⟨_, _, [], [], ?_, rfl, hy, hz⟩, hoy, hoz⟩
     rw [h3, ← List.drop_drop, List.take_append_drop]
theorem weights_of {H : Type} {P : Program} {t : TypeId} {x : DataW H} : ∀ {ts : List TypeId} {ds : List (DataW H)} {j : Nat}, (DataW.weightsEach P ts ds).all (· ≤ reachBytes) = true → ts[j]? = some t → ds[j]? = some x → ∀ n ∈ x.weights P t, n ≤ reachBytes := by
 intro ts
 induction ts with
 | nil => intro ds j _ h; simp at h
 | cons a ts ih =>
  intro ds j hw ht hd n hn
  match ds with
  | [] => simp at hd
  | d :: ds =>
   rw [DataW.weightsEach, List.all_append, Bool.and_eq_true] at hw
   cases j with
   | zero =>
    simp at ht hd
    subst ht; subst hd
    simpa using List.all_eq_true.1 hw.1 n hn
   | succ j => exact ih hw.2 (by simpa using ht) (by simpa using hd) n hn
def argFitB (P : Program) (τ : Ty) (t : Nat) : Bool := fitB P 60 τ (.inl t) && (match P.underlying t with | some (.struct _) => !τ.one | _ => τ.one)
theorem arg_open (hZ : ∀ b, b < w.heap.size → Z b) {H : Type} {enc : TypeId × Value → H} {τ : Ty} {t : Nat} (hfit : argFitB P τ t = true) {r : Reach} {base : Nat} {v : Value} {x : DataW H} {ps : List MemPlace} {ts : List TypeId} {ds : List (DataW H)} {j : Nat}
 (hsz : (DataW.weightsEach P ts ds).all (· ≤ reachBytes) = true) (hj : ts[j]? = some t) (hd : ds[j]? = some x) (hv : Value.okWide P w r base t v) (h : DataW.Trod enc P w 0 (fun _ => true) true t v x ps) :
 ∃ y, ArgRep Z w false τ y v [] ∧ okT τ y := by
 unfold argFitB at hfit
 rw [Bool.and_eq_true] at hfit
 obtain ⟨fuel, hf⟩ := h
 have hwt : ∀ n ∈ x.weights P t, n ≤ reachBytes := weights_of hsz hj hd
 obtain ⟨y, hy, ho⟩ := fit_ok (P := P) hZ 60 τ (.inl t) hfit.1 hf hwt
 refine ⟨y, ⟨v.cells.toList, ?_, hy⟩, ho⟩
 have h2 := hfit.2
 have h1 : fitB P (59 + 1) τ (.inl t) = true := hfit.1
 unfold fitB at h1
 split at h1
 ·rename_i hu
  rw [hu] at h2
  obtain ⟨c, rfl⟩ := WideShapes.okWide_bool hu hv
  rw [show (!Ty.bool.one) = false from rfl]; rfl
 ·rename_i k' k hu
  obtain ⟨c, rfl⟩ := WideShapes.okWide_int hu hv
  rfl
 ·rename_i hu
  obtain ⟨c, rfl⟩ := WideShapes.okWide_string hu hv
  rfl
 ·rename_i et e hu
  obtain ⟨a, len, cap, rfl⟩ := WideShapes.okWide_slice hu hv
  rfl
 ·rename_i fs hu
  rw [hu] at h2
  obtain ⟨cs, rfl, _⟩ := WideShapes.okWide_struct hu hv
  simp only at h2
  rw [h2]
  simp [IsV, Value.cells]
 ·cases h1
end
end Go.Proofs.Ytcefbdknoelacaa.A

-- YtcefbdknoelacaaTb
set_option linter.unusedVariables false
set_option linter.unusedSimpArgs false
namespace Go.Proofs.Ytcefbdknoelacaa.A
open Go
def zrepB : LV → Value → Bool
 | .v .bool b, .bool c => b == c
 | .v (.int k) n, .int k' m => decide (k' = k) && decide (m = n) && decide (k.min ≤ n) && decide (n ≤ k.max)
 | .v .str l, .string s => decide (s.data.toList = l) && decide (l.length ≤ big)
 | .nils, .slice none 0 0 => true
 | .nilm, .map none => true
 | .nilp, .pointer none => true
 | .junk, _ => true
 | _, _ => false
def zrepsB : List LV → List Value → Bool
 | [], [] => true
 | l :: ls, c :: cs => zrepB l c && zrepsB ls cs
 | _, _ => false
def aggB : Value → Bool
 | .agg _ => true
 | .tuple _ => false
 | _ => false
def oneFitsB (P : Program) (t : Nat) : Ty → Bool
 | .int k => (match P.underlying t with | some (.int k') => decide (k' = k) | _ => false)
 | .bool => (match P.underlying t with | some .bool => true | _ => false)
 | .str => (match P.underlying t with | some .string => true | _ => false)
 | _ => false
def eqFB (P : Program) : Nat → List Go.Field → Ty → Bool
 | _, [], _ => false
 | off, [f], τ => decide (f.name ≠ "_") && Nat.beq f.offset off && oneFitsB P f.type τ
 | off, f :: g :: fs, .pair a b => decide (f.name ≠ "_") && Nat.beq f.offset off && oneFitsB P f.type a && eqFB P (off + 1) (g :: fs) b
 | _, _, _ => false
def descFitsB (i : TI) (d : TypeDesc) : Bool :=
 match i.ty, d with
 | .int k, .int k' => decide (k' = k)
 | .int _, _ => false
 | .bool, .bool => true
 | .bool, _ => false
 | .str, .string => true
 | .str, _ => false
 | .sl _, .slice e => Nat.beq e i.elem
 | .sl _, _ => false
 | .map _ _, .map k e => Nat.beq k i.key && Nat.beq e i.elem
 | .map _ _, _ => false
 | _, _ => true
def fieldsB : List Go.Field → List (Nat × Nat) → Bool
 | [], [] => true
 | f :: fs, p :: ps => Nat.beq f.offset p.1 && Nat.beq f.type p.2 && fieldsB fs ps
 | _, _ => false
def rowOkB (P : Program) (t : Nat) (i : TI) : Bool :=
 (match P.info? t with
  | some inf => Nat.beq inf.size i.ty.cells && Nat.beq inf.bytes i.bytes && (match inf.zero with | some z => (aggB z == i.agg) && zrepsB i.zero z.cells.toList && (i.agg || (match z with | .tuple _ => false | _ => true)) | none => false)
  | none => false) &&
 (i.agg || i.ty.one) && Nat.beq i.zero.length i.ty.cells && Nat.ble i.bytes 128 &&
 (match i.agg with
  | true => (match P.underlying t with
   | some (.struct fs) => (fs.toList.mapM (fun f => (P.info? f.type).map fun i => (f.offset, i.size))).isSome && (!i.ty.eqB || (eqFB P 0 fs.toList i.ty && !(P.eqGuardType P.depth t))) && !(P.stoodInHeld t) && fieldsB fs.toList i.fields
   | _ => false)
  | false => (match P.underlying t with | some d => plainDesc d && descFitsB i d | none => false))
section
variable {P : Program}
theorem zrep_of : ∀ {l : LV} {c : Value}, zrepB l c = true → ZRep l c := by
 intro l c h
 unfold zrepB at h
 split at h
 ·rename_i b c
  have : b = c := by simpa using h
  subst this
  rfl
 ·simp only [Bool.and_eq_true, decide_eq_true_eq] at h
  obtain ⟨⟨⟨rfl, rfl⟩, h3⟩, h4⟩ := h
  exact ⟨rfl, h3, h4⟩
 ·rename_i l s
  simp only [Bool.and_eq_true, decide_eq_true_eq] at h
  obtain ⟨h1, h2⟩ := h
  subst h1
  exact ⟨rfl, h2⟩
 ·rfl
 ·rfl
 ·rfl
 ·trivial
 ·cases h
theorem zreps_of : ∀ {ls : List LV} {cs : List Value}, zrepsB ls cs = true → All2 ZRep ls cs
 | [], [], _ => trivial
 | l :: ls, c :: cs, h => by
  simp only [zrepsB, Bool.and_eq_true] at h
  exact ⟨zrep_of h.1, zreps_of h.2⟩
 | [], _ :: _, h => by cases h
 | _ :: _, [], h => by cases h
theorem oneFits_of {t : Nat} {τ : Ty} (h : oneFitsB P t τ = true) : oneFits P t τ := by
 cases τ <;> try (cases h; done)
 all_goals
  simp only [oneFitsB] at h
  split at h
 ·rename_i hu; exact hu
 ·cases h
 ·rename_i k' hu
  have h := of_decide_eq_true h
  subst h
  exact hu
 ·cases h
 ·rename_i hu; exact hu
 ·cases h
theorem eqF_of : ∀ {fs : List Go.Field} {off : Nat} {τ : Ty}, eqFB P off fs τ = true → EqF P off fs τ
 | [], off, τ, h => by simp [eqFB] at h
 | [f], off, τ, h => by
  simp only [eqFB, Bool.and_eq_true, decide_eq_true_eq] at h
  obtain ⟨⟨h1, h2⟩, h3⟩ := h
  cases τ <;> exact ⟨h1, Nat.eq_of_beq_eq_true h2, oneFits_of h3⟩
 | f :: g :: fs, off, τ, h => by
  cases τ <;> try (simp [eqFB] at h; done)
  simp only [eqFB, Bool.and_eq_true, decide_eq_true_eq] at h
  obtain ⟨⟨⟨h1, h2⟩, h3⟩, h4⟩ := h
  exact ⟨h1, Nat.eq_of_beq_eq_true h2, oneFits_of h3, eqF_of h4⟩
theorem descFits_of {i : TI} {d : TypeDesc} (h : descFitsB i d = true) : descFits i d := by
 unfold descFitsB at h
 unfold descFits
 generalize i.ty = τ at h ⊢
 cases τ <;> cases d <;> first
  | exact False.elim (Bool.false_ne_true h)
  | exact trivial
  | exact rfl
  | exact congrArg TypeDesc.int (of_decide_eq_true h)
  | exact congrArg TypeDesc.slice (Nat.eq_of_beq_eq_true h)
  | exact (by
   have h := (Bool.and_eq_true _ _).mp h
   exact congr (congrArg TypeDesc.map (Nat.eq_of_beq_eq_true h.1)) (Nat.eq_of_beq_eq_true h.2))
theorem fields_of : ∀ {fs : List Go.Field} {ps : List (Nat × Nat)}, fieldsB fs ps = true → fs.length = ps.length ∧ ∀ (f o ft : Nat), ps[f]? = some (o, ft) → ∃ fd : Go.Field, fs[f]? = some fd ∧ fd.offset = o ∧ fd.type = ft
 | [], [], _ => ⟨rfl, by simp⟩
 | f :: fs, p :: ps, h => by
  simp only [fieldsB, Bool.and_eq_true] at h
  obtain ⟨⟨h1, h2⟩, h3⟩ := h
  obtain ⟨g1, g2⟩ := fields_of h3
  refine ⟨by simp [g1], fun k o ft hk => ?_⟩
  cases k with
  | zero =>
   simp only [List.getElem?_cons_zero, Option.some.injEq] at hk
   subst hk
   exact ⟨f, rfl, Nat.eq_of_beq_eq_true h1, Nat.eq_of_beq_eq_true h2⟩
  | succ k => simpa using g2 k o ft (by simpa using hk)
 | [], _ :: _, h => by cases h
 | _ :: _, [], h => by cases h
theorem rowOk_of {t : Nat} {i : TI} (h : rowOkB P t i = true) : TyOk P t i := by
 unfold rowOkB at h
 simp only [Bool.and_eq_true] at h
 obtain ⟨⟨⟨⟨h1, h2⟩, h3⟩, h4⟩, h5⟩ := h
 have hagg : i.agg = true → ∃ fs : Array Go.Field, P.underlying t = some (.struct fs) ∧ (fs.toList.mapM (fun f => (P.info? f.type).map fun i => (f.offset, i.size))).isSome = true ∧ (!i.ty.eqB || (eqFB P 0 fs.toList i.ty && !(P.eqGuardType P.depth t))) = true ∧ P.stoodInHeld t = false ∧ fieldsB fs.toList i.fields = true := fun ha => by
  rw [ha] at h5
  simp only at h5
  split at h5
  ·rename_i fs hu
   simp only [Bool.and_eq_true, Bool.not_eq_true'] at h5
   obtain ⟨⟨⟨a1, a2⟩, a3⟩, a4⟩ := h5
   exact ⟨fs, hu, a1, a2, a3, a4⟩
  ·cases h5
 refine ⟨?_, fun ha => ?_, Nat.eq_of_beq_eq_true h3, Nat.le_of_ble_eq_true h4, fun ha => ?_, fun ha he => ?_, fun ha he => ?_, ?_⟩
 ·split at h1
  ·rename_i inf hi
   simp only [Bool.and_eq_true] at h1
   obtain ⟨⟨g1, g2⟩, g3⟩ := h1
   split at g3
   ·rename_i z hz
    simp only [Bool.and_eq_true] at g3
    obtain ⟨⟨k1, k2⟩, k3⟩ := g3
    refine ⟨inf, z, hi, Nat.eq_of_beq_eq_true g1, Nat.eq_of_beq_eq_true g2, hz, ?_, zreps_of k2⟩
    have k1 : aggB z = i.agg := by simpa using k1
    rw [← k1]
    cases z <;> first | rfl | simp [aggB, IsV, Value.cells]
   ·cases g3
  ·cases h1
 ·rw [ha] at h2; simpa using h2
 ·obtain ⟨fs, a1, a2, _⟩ := hagg ha
  obtain ⟨pl, hp⟩ := Option.isSome_iff_exists.1 a2
  exact ⟨fs, pl, a1, hp⟩
 ·obtain ⟨fs, a1, _, a3, _⟩ := hagg ha
  rw [he] at a3
  simp only [Bool.not_true, Bool.false_or, Bool.and_eq_true] at a3
  exact ⟨fs, a1, eqF_of a3.1⟩
 ·obtain ⟨fs, a1, _, a3, _⟩ := hagg ha
  rw [he] at a3
  simp only [Bool.not_true, Bool.false_or, Bool.and_eq_true] at a3
  simpa using a3.2
 ·cases ha : i.agg with
  | true =>
   obtain ⟨fs, a1, _, _, a4, a5⟩ := hagg ha
   obtain ⟨f1, f2⟩ := fields_of a5
   exact ⟨fs, a1, a4, fun f o ft hf => by obtain ⟨fd, q1, q2⟩ := f2 f o ft hf; exact ⟨fd, by simpa using q1, q2⟩, by simpa using f1⟩
  | false =>
   rw [ha] at h5
   simp only at h5
   split at h5
   ·rename_i d hu
    simp only [Bool.and_eq_true] at h5
    exact ⟨d, hu, h5.1, descFits_of h5.2⟩
   ·cases h5
def tabOkB (P : Program) (l : List (Nat × Option TI)) : Bool := l.all fun p => match p.2 with | some i => rowOkB P p.1 i | none => true
theorem tabOk_of {l : List (Nat × Option TI)} (h : tabOkB P l = true) : TabOk P (ofL none l) := by
 intro t i hi
 induction l with
 | nil => cases hi
 | cons p l ih =>
  unfold tabOkB at h
  rw [List.all_cons, Bool.and_eq_true] at h
  obtain ⟨k, x⟩ := p
  rw [ofL_cons] at hi
  by_cases hk : t = k
  ·subst hk
   rw [upd_same] at hi
   subst hi
   exact rowOk_of h.1
  ·rw [upd_other _ _ hk] at hi
   exact ih h.2 hi
end
end Go.Proofs.Ytcefbdknoelacaa.A

-- YtcefbdknoelacaaLw
set_option linter.unusedVariables false
set_option linter.unusedSimpArgs false
namespace Go.Proofs.Ytcefbdknoelacaa.A
open Go
section
variable {P : Program} {tab : Nat → Option TI}
theorem TOk.nil : TOk P (ofL none []) := fun _ _ h => by cases h
theorem TOk.cons {f : Nat} {F : FunE} {l : List (Nat × Option FunE)} (h : FunC P f F) (hl : TOk P (ofL none l)) : TOk P (ofL none ((f, some F) :: l)) := by
 intro g G hg
 rw [ofL_cons] at hg
 by_cases e : g = f
 ·subst e
  rw [upd_same] at hg
  cases hg
  exact h
 ·rw [upd_other _ _ e] at hg
  exact hl g G hg
theorem funC_of (hm : P.follows .mixedOrders = true) (hT : TabOk P tab) {f : FuncId} {fn : Func} (hf : P.funcs[f]? = some fn) {T : Nat → Nat → Option FunE} {ann : Nat → Option (List Keep)} {ins : List (Bool × Ty)} {outs : List Ty} {n : Nat} (hC : ∀ k, TOk P (T k)) (hk : fnOkB fn ins = true) (hn : (fn.name == "runtime.NumGoroutine") = false) : FunC P f (fnE tab T ann fn ins outs n) := by
 refine ⟨fun _ => fnE_ok hm hT hf (fun k _ => way_ok hT (hC k)) hk, fun _ _ h => (by cases h), fn, hf, hn, ?_⟩
 simp only [fnOkB, Bool.and_eq_true] at hk
 have := hk.1.1.2
 cases hb : fn.body with
 | none => rw [hb] at this; cases this
 | some _ => rfl
theorem FunC.spec {f : FuncId} {ins : List (Bool × Ty)} {outs : List Ty} {F : Nat → (ins.foldr (fun p t => Ty.pair p.2 t) .unit).den → Option ((outs ++ (ins.filter (·.1)).map (·.2)).foldr Ty.pair .unit).den} {g : (ins.foldr (fun p t => Ty.pair p.2 t) .unit).den → Option ((outs ++ (ins.filter (·.1)).map (·.2)).foldr Ty.pair .unit).den}
 (hF : ∀ n, FunC P f { ins := ins, outs := outs, f := F n }) (h : ∀ x r, g x = some r → ∃ n, F n x = some r) : FunC P f { ins := ins, outs := outs, f := g } := by
 refine ⟨fun _ Z w xs vs Fs r h1 h2 h3 h4 h5 => ?_, fun _ _ h => (by cases h), (hF 0).en⟩
 obtain ⟨n, hn⟩ := h xs r h5
 exact ((hF n).ok' rfl Z w xs vs Fs r h1 h2 h3 h4 hn).mono fun e w' ⟨v, Z', us, Fr, Fi, he, p⟩ => ⟨v, Z', us, Fr, Fi, he, ⟨p.kp, p.zs, p.zl, p.zi, p.res, p.v, p.io, p.nd, p.nz⟩⟩
theorem law_end {Z : Nat → Prop} {w w' : World} {F : FunE} {vs us : List Value} {v : Value} {Z' : Nat → Prop} {Fr Fi : List Nat} {r : ((F.outs ++ (F.ins.filter (·.1)).map (·.2)).foldr Ty.pair .unit).den} (p : Post Z w [] F vs r v w' Z' us Fr Fi) {τs : List Ty} (ho : F.outs = [.bool]) {b : Bool} (hb : ResL Z' w' F.outs (splitRes F.outs _ r).1 us Fr → ResL Z' w' [.bool] (b, ()) us Fr) :
 v = .bool b ∧ RowKit.Below w.heap.size w w' := by
 refine ⟨?_, p.kp.os, p.kp.tape, p.kp.output, p.kp.size, fun k hk => p.kp.block k hk (by simp)⟩
 obtain ⟨u, us', F1, F2, e1, e2, ⟨cs, e3, e4⟩, e5, e6⟩ := hb p.res
 have e3 : cs = [u] := e3
 subst e3
 obtain ⟨e7, _⟩ := e4
 rw [p.v, e1, e5]
 simpa [tupOf] using e7
end
end Go.Proofs.Ytcefbdknoelacaa.A

-- YtcefbdknoelacaaShelf
namespace Go.Proofs
open Go.Shelf
def Try.lays106_ren : Go.Shelf.Ren := ⟨fun | 106 => 110 | 213 => 121 | 265 => 134 | n => n, fun | 9 => 9 | 3 => 3 | n => n, fun | n => n⟩
theorem Try.lays106 : Go.Proofs.Lays.n106 Try.prog Try.lays106_ren := {
 mixed := by kernel_rfl
 f106 := Try.func110.trans (congrArg some (by kernel_rfl))
 f213 := Try.func121.trans (congrArg some (by kernel_rfl))
 f265 := Try.func134.trans (congrArg some (by kernel_rfl))
 t3 := Try.underlying3
 a3 := Try.isAgg3
 z3 := Try.sizeOf3
 v3 := Try.zeroValue3
 t9 := Try.underlying9
 a9 := Try.isAgg9
 z9 := Try.sizeOf9
 v9 := Try.zeroValue9 }
open Go.RowKit in
theorem Try.strings_Compare (a b : ByteArray) (w : World) :
 Calls Try.prog 110 #[.string a, .string b] w fun e w' => e = .returned (.int .i64 (Lib.compareBytes a.data.toList b.data.toList)) ∧ w' = w := Any.strings_Compare Try.lays106 a b w
def Try.lays109_ren : Go.Shelf.Ren := ⟨fun | 109 => 116 | n => n, fun | 31 => 38 | 9 => 9 | 3 => 3 | 0 => 0 | 4 => 4 | n => n, fun | n => n⟩
theorem Try.lays109 : Go.Proofs.Lays.n109 Try.prog Try.lays109_ren := {
 mixed := by kernel_rfl
 f109 := Try.func116.trans (congrArg some (by kernel_rfl))
 t0 := Try.underlying0
 a0 := Try.isAgg0
 z0 := Try.sizeOf0
 v0 := Try.zeroValue0
 t3 := Try.underlying3
 a3 := Try.isAgg3
 z3 := Try.sizeOf3
 v3 := Try.zeroValue3
 t4 := Try.underlying4
 a4 := Try.isAgg4
 z4 := Try.sizeOf4
 v4 := Try.zeroValue4
 t9 := Try.underlying9
 a9 := Try.isAgg9
 z9 := Try.sizeOf9
 v9 := Try.zeroValue9
 t31 := Try.underlying38
 a31 := Try.isAgg38
 z31 := Try.sizeOf38
 v31 := Try.zeroValue38 }
open Go.Lib in
theorem Try.slices_Index_string (b off n c : Nat) (zs : List ByteArray) (x : ByteArray) (w : World) (hz : n ≤ zs.length) (hbig : n ≤ 9223372036854775807) (hc : ∀ j, j < zs.length → w.cell? ⟨b, off + j, none⟩ = some (.string (zs.getD j ByteArray.empty))) :
 Calls Try.prog 116 #[.slice (some ⟨b, off, none⟩) n c, .string x] w fun e w' => e = .returned (.int .i64 (Lib.idxOfS (zs.take n) x)) ∧ w' = w := Any.slices_Index_string Try.lays109 b off n c zs x w hz hbig hc
def Try.lays110_ren : Go.Shelf.Ren := ⟨fun | 110 => 93 | 109 => 116 | n => n, fun | 31 => 38 | 9 => 9 | 4 => 4 | 3 => 3 | 0 => 0 | n => n, fun | n => n⟩
theorem Try.lays110 : Go.Proofs.Lays.n110 Try.prog Try.lays110_ren := {
 mixed := by kernel_rfl
 f109 := Try.func116.trans (congrArg some (by kernel_rfl))
 f110 := Try.func93.trans (congrArg some (by kernel_rfl))
 t0 := Try.underlying0
 a0 := Try.isAgg0
 z0 := Try.sizeOf0
 v0 := Try.zeroValue0
 t3 := Try.underlying3
 a3 := Try.isAgg3
 z3 := Try.sizeOf3
 v3 := Try.zeroValue3
 t4 := Try.underlying4
 a4 := Try.isAgg4
 z4 := Try.sizeOf4
 v4 := Try.zeroValue4
 t9 := Try.underlying9
 a9 := Try.isAgg9
 z9 := Try.sizeOf9
 v9 := Try.zeroValue9
 t31 := Try.underlying38
 a31 := Try.isAgg38
 z31 := Try.sizeOf38
 v31 := Try.zeroValue38 }
open Go.Lib in
theorem Try.slices_Contains_string (b off n c : Nat) (zs : List ByteArray) (x : ByteArray) (w : World) (hz : n ≤ zs.length) (hbig : n ≤ 9223372036854775807) (hc : ∀ j, j < zs.length → w.cell? ⟨b, off + j, none⟩ = some (.string (zs.getD j ByteArray.empty))) :
 Calls Try.prog 93 #[.slice (some ⟨b, off, none⟩) n c, .string x] w fun e w' => e = .returned (.bool (Lib.containsS (zs.take n) x)) ∧ w' = w := Any.slices_Contains_string Try.lays110 b off n c zs x w hz hbig hc
end Go.Proofs

-- YtcefbdknoelacaaSh
set_option linter.unusedVariables false
set_option linter.unusedSimpArgs false
namespace Go.Proofs.Ytcefbdknoelacaa.A
open Go Go.Sort
section
variable {P : Program} {w w' : World} {Z : Nat → Prop}

end
end Go.Proofs.Ytcefbdknoelacaa.A

-- YtcefbdknoelacaaK
set_option linter.unusedVariables false
set_option maxRecDepth 100000
namespace Go.Proofs.Ytcefbdknoelacaa.A
open Go
theorem follows : Try.prog.follows .mixedOrders = true := by kernel_rfl
theorem tab_ok : TabOk Try.prog tab := tabOk_of (by kernel_rfl)
theorem compare_less : ∀ a b : List UInt8, Lib.compareBytes a b = if Op.bytesLess a b = true then -1 else if Op.bytesLess b a = true then 1 else 0 := by
 intro a
 induction a with
 | nil => intro b; cases b <;> simp [Lib.compareBytes, Op.bytesLess]
 | cons x a ih =>
  intro b
  cases b with
  | nil => simp [Lib.compareBytes, Op.bytesLess]
  | cons y b =>
   have e1 : Op.bytesLess (x :: a) (y :: b) = (decide (x < y) || (x == y && Op.bytesLess a b)) := by rw [Op.bytesLess]
   have e2 : Op.bytesLess (y :: b) (x :: a) = (decide (y < x) || (y == x && Op.bytesLess b a)) := by rw [Op.bytesLess]
   rw [Lib.compareBytes, e1, e2]
   rcases Nat.lt_trichotomy x.toNat y.toNat with h | h | h
   ·have h1 : x < y := UInt8.lt_iff_toNat_lt.2 h
    simp [h1]
   ·have h3 : x = y := UInt8.toNat_inj.1 h
    subst h3
    have h2 : ¬ x < x := fun h' => by have := UInt8.lt_iff_toNat_lt.1 h'; omega
    simpa [h2] using ih b
   ·have h1 : y < x := UInt8.lt_iff_toNat_lt.2 h
    have h2 : ¬ x < y := fun h' => by have := UInt8.lt_iff_toNat_lt.1 h'; omega
    have h3 : ¬ x = y := fun h' => by subst h'; omega
    simp [h1, h2, h3]
theorem cmpS_range (a b : List UInt8) : IntKind.i64.min ≤ cmpS a b ∧ cmpS a b ≤ IntKind.i64.max := by
 have h1 : IntKind.i64.min = -9223372036854775808 := rfl
 have h2 : IntKind.i64.max = 9223372036854775807 := rfl
 rw [h1, h2]
 unfold cmpS
 split
 ·omega
 ·split <;> omega
theorem strings_Compare.ok (n : Nat) : FunC Try.prog 110 (strings_Compare.E n) := by
 refine ⟨fun _ Z w xs vs Fs r hZ hA hn hF hr => ?_, fun _ _ h => (by have h2 : (none : Option ((e : Ty) × (List e.den → Option (List e.den)))) = some _ := h; cases h2), Try.f110, Try.func110, by kernel_rfl, by kernel_rfl⟩
 obtain ⟨v0, vs0, F0, G0, rfl, rfl, ⟨c0, i0, q0⟩, v1, vs1, F1, G1, rfl, rfl, ⟨c1, i1, q1⟩, rfl, rfl⟩ := hA
 have i0 : c0 = [v0] := i0
 have i1 : c1 = [v1] := i1
 subst i0; subst i1
 obtain ⟨q0, rfl, l0⟩ := q0
 obtain ⟨q1, rfl, l1⟩ := q1
 simp only [List.cons.injEq, and_true] at q0 q1
 subst q0; subst q1
 have hr : some (cmpS xs.1 xs.2.1, ()) = some r := hr
 cases hr
 refine (Try.strings_Compare ⟨⟨xs.1⟩⟩ ⟨⟨xs.2.1⟩⟩ w).mono ?_
 rintro e w' ⟨rfl, rfl⟩
 refine ⟨_, Z, [.int .i64 (cmpS xs.1 xs.2.1)], [], [], rfl, Kept.refl _ _, fun _ h => h, hZ, fun _ h _ => .inl h, ?_, ?_, ?_, by simp, by simp⟩
 ·exact ⟨_, [], [], [], rfl, rfl, ⟨[_], rfl, rfl, rfl, cmpS_range _ _⟩, rfl, rfl⟩
 ·rw [compare_less]
  rfl
 ·rfl

theorem telemetry_parameter_1.ok (n : Nat) : FunC Try.prog 109 (telemetry_parameter_1.E n) := funC_of follows tab_ok Try.func109 (T := telemetry_parameter_1.T) (ann := telemetry_parameter_1.ann) (ins := telemetry_parameter_1.ins) (outs := telemetry_parameter_1.outs) (n := n) (fun k => TOk.cons (strings_Compare.ok k) (TOk.nil)) (by kernel_rfl) (by kernel_rfl)
theorem kit_In.ok (n : Nat) : FunC Try.prog 55 (kit_In.E n) := funC_of follows tab_ok Try.func55 (T := kit_In.T) (ann := kit_In.ann) (ins := kit_In.ins) (outs := kit_In.outs) (n := n) (fun k => TOk.nil) (by kernel_rfl) (by kernel_rfl)
theorem telemetry_Word.ok (n : Nat) : FunC Try.prog 60 (telemetry_Word.E n) := funC_of follows tab_ok Try.func60 (T := telemetry_Word.T) (ann := telemetry_Word.ann) (ins := telemetry_Word.ins) (outs := telemetry_Word.outs) (n := n) (fun k => TOk.nil) (by kernel_rfl) (by kernel_rfl)
theorem kit_First.ok (n : Nat) : FunC Try.prog 61 (kit_First.E n) := funC_of follows tab_ok Try.func61 (T := kit_First.T) (ann := kit_First.ann) (ins := kit_First.ins) (outs := kit_First.outs) (n := n) (fun k => TOk.nil) (by kernel_rfl) (by kernel_rfl)
theorem telemetry_span.ok (n : Nat) : FunC Try.prog 54 (telemetry_span.E n) := funC_of follows tab_ok Try.func54 (T := telemetry_span.T) (ann := telemetry_span.ann) (ins := telemetry_span.ins) (outs := telemetry_span.outs) (n := n) (fun k => TOk.nil) (by kernel_rfl) (by kernel_rfl)
theorem telemetry_checkDots.ok (n : Nat) : FunC Try.prog 62 (telemetry_checkDots.E n) := funC_of follows tab_ok Try.func62 (T := telemetry_checkDots.T) (ann := telemetry_checkDots.ann) (ins := telemetry_checkDots.ins) (outs := telemetry_checkDots.outs) (n := n) (fun k => TOk.cons (telemetry_span.ok k) (TOk.cons (kit_In.ok k) (TOk.nil))) (by kernel_rfl) (by kernel_rfl)
theorem telemetry_checkWords.ok (n : Nat) : FunC Try.prog 63 (telemetry_checkWords.E n) := funC_of follows tab_ok Try.func63 (T := telemetry_checkWords.T) (ann := telemetry_checkWords.ann) (ins := telemetry_checkWords.ins) (outs := telemetry_checkWords.outs) (n := n) (fun k => TOk.cons (telemetry_span.ok k) (TOk.cons (kit_In.ok k) (TOk.cons (telemetry_Word.ok k) (TOk.nil)))) (by kernel_rfl) (by kernel_rfl)
theorem telemetry_CheckParameters.ok (n : Nat) : FunC Try.prog 18 (telemetry_CheckParameters.E n) := funC_of follows tab_ok Try.func18 (T := telemetry_CheckParameters.T) (ann := telemetry_CheckParameters.ann) (ins := telemetry_CheckParameters.ins) (outs := telemetry_CheckParameters.outs) (n := n) (fun k => TOk.cons (kit_In.ok k) (TOk.cons (telemetry_Word.ok k) (TOk.cons (kit_First.ok k) (TOk.cons (telemetry_checkDots.ok k) (TOk.cons (telemetry_checkWords.ok k) (TOk.nil)))))) (by kernel_rfl) (by kernel_rfl)
theorem slices_BinarySearchFunc_string.ok (n : Nat) : FunC Try.prog 108 (slices_BinarySearchFunc_string.E n) := funC_of follows tab_ok Try.func108 (T := slices_BinarySearchFunc_string.T) (ann := slices_BinarySearchFunc_string.ann) (ins := slices_BinarySearchFunc_string.ins) (outs := slices_BinarySearchFunc_string.outs) (n := n) (fun k => TOk.cons (telemetry_parameter_1.ok k) (TOk.nil)) (by kernel_rfl) (by kernel_rfl)
theorem telemetry_parameter.ok (n : Nat) : FunC Try.prog 53 (telemetry_parameter.E n) := funC_of follows tab_ok Try.func53 (T := telemetry_parameter.T) (ann := telemetry_parameter.ann) (ins := telemetry_parameter.ins) (outs := telemetry_parameter.outs) (n := n) (fun k => TOk.cons (slices_BinarySearchFunc_string.ok k) (TOk.nil)) (by kernel_rfl) (by kernel_rfl)
theorem kit_Down.ok (n : Nat) : FunC Try.prog 113 (kit_Down.E n) := funC_of follows tab_ok Try.func113 (T := kit_Down.T) (ann := kit_Down.ann) (ins := kit_Down.ins) (outs := kit_Down.outs) (n := n) (fun k => TOk.nil) (by kernel_rfl) (by kernel_rfl)
theorem kit_Up.ok (n : Nat) : FunC Try.prog 70 (kit_Up.E n) := funC_of follows tab_ok Try.func70 (T := kit_Up.T) (ann := kit_Up.ann) (ins := kit_Up.ins) (outs := kit_Up.outs) (n := n) (fun k => TOk.cons (kit_Down.ok k) (TOk.nil)) (by kernel_rfl) (by kernel_rfl)
theorem clock_Code.ok (n : Nat) : FunC Try.prog 23 (clock_Code.E n) := funC_of follows tab_ok Try.func23 (T := clock_Code.T) (ann := clock_Code.ann) (ins := clock_Code.ins) (outs := clock_Code.outs) (n := n) (fun k => TOk.cons (kit_In.ok k) (TOk.nil)) (by kernel_rfl) (by kernel_rfl)
theorem clock_checkBits.ok (n : Nat) : FunC Try.prog 115 (clock_checkBits.E n) := funC_of follows tab_ok Try.func115 (T := clock_checkBits.T) (ann := clock_checkBits.ann) (ins := clock_checkBits.ins) (outs := clock_checkBits.outs) (n := n) (fun k => TOk.cons (kit_In.ok k) (TOk.nil)) (by kernel_rfl) (by kernel_rfl)
theorem clock_Rolled.ok (n : Nat) : FunC Try.prog 76 (clock_Rolled.E n) := funC_of follows tab_ok Try.func76 (T := clock_Rolled.T) (ann := clock_Rolled.ann) (ins := clock_Rolled.ins) (outs := clock_Rolled.outs) (n := n) (fun k => TOk.cons (kit_In.ok k) (TOk.cons (clock_checkBits.ok k) (TOk.nil))) (by kernel_rfl) (by kernel_rfl)
theorem perigeetop_turns.ok (n : Nat) : FunC Try.prog 24 (perigeetop_turns.E n) := funC_of follows tab_ok Try.func24 (T := perigeetop_turns.T) (ann := perigeetop_turns.ann) (ins := perigeetop_turns.ins) (outs := perigeetop_turns.outs) (n := n) (fun k => TOk.cons (clock_Rolled.ok k) (TOk.nil)) (by kernel_rfl) (by kernel_rfl)
theorem telemetry_checkParts.ok (n : Nat) : FunC Try.prog 92 (telemetry_checkParts.E n) := funC_of follows tab_ok Try.func92 (T := telemetry_checkParts.T) (ann := telemetry_checkParts.ann) (ins := telemetry_checkParts.ins) (outs := telemetry_checkParts.outs) (n := n) (fun k => TOk.cons (telemetry_parameter.ok k) (TOk.nil)) (by kernel_rfl) (by kernel_rfl)
theorem telemetry_CheckLayouts.ok (n : Nat) : FunC Try.prog 38 (telemetry_CheckLayouts.E n) := funC_of follows tab_ok Try.func38 (T := telemetry_CheckLayouts.T) (ann := telemetry_CheckLayouts.ann) (ins := telemetry_CheckLayouts.ins) (outs := telemetry_CheckLayouts.outs) (n := n) (fun k => TOk.cons (telemetry_CheckParameters.ok k) (TOk.cons (telemetry_Word.ok k) (TOk.cons (telemetry_checkParts.ok k) (TOk.nil)))) (by kernel_rfl) (by kernel_rfl)
theorem telemetry_layout.ok (n : Nat) : FunC Try.prog 83 (telemetry_layout.E n) := funC_of follows tab_ok Try.func83 (T := telemetry_layout.T) (ann := telemetry_layout.ann) (ins := telemetry_layout.ins) (outs := telemetry_layout.outs) (n := n) (fun k => TOk.nil) (by kernel_rfl) (by kernel_rfl)
theorem telemetry_found.ok (n : Nat) : FunC Try.prog 77 (telemetry_found.E n) := funC_of follows tab_ok Try.func77 (T := telemetry_found.T) (ann := telemetry_found.ann) (ins := telemetry_found.ins) (outs := telemetry_found.outs) (n := n) (fun k => TOk.cons (telemetry_CheckLayouts.ok k) (TOk.cons (telemetry_layout.ok k) (TOk.nil))) (by kernel_rfl) (by kernel_rfl)
theorem telemetry_checkReadings.ok (n : Nat) : FunC Try.prog 78 (telemetry_checkReadings.E n) := funC_of follows tab_ok Try.func78 (T := telemetry_checkReadings.T) (ann := telemetry_checkReadings.ann) (ins := telemetry_checkReadings.ins) (outs := telemetry_checkReadings.outs) (n := n) (fun k => TOk.cons (telemetry_parameter.ok k) (TOk.cons (telemetry_span.ok k) (TOk.cons (kit_In.ok k) (TOk.nil)))) (by kernel_rfl) (by kernel_rfl)
theorem telemetry_row_put.ok (n : Nat) : FunC Try.prog 79 (telemetry_row_put.E n) := funC_of follows tab_ok Try.func79 (T := telemetry_row_put.T) (ann := telemetry_row_put.ann) (ins := telemetry_row_put.ins) (outs := telemetry_row_put.outs) (n := n) (fun k => TOk.nil) (by kernel_rfl) (by kernel_rfl)
theorem telemetry_Filled.ok (n : Nat) : FunC Try.prog 25 (telemetry_Filled.E n) := funC_of follows tab_ok Try.func25 (T := telemetry_Filled.T) (ann := telemetry_Filled.ann) (ins := telemetry_Filled.ins) (outs := telemetry_Filled.outs) (n := n) (fun k => TOk.cons (telemetry_parameter.ok k) (TOk.cons (telemetry_found.ok k) (TOk.cons (telemetry_checkReadings.ok k) (TOk.cons (telemetry_row_put.ok k) (TOk.nil))))) (by kernel_rfl) (by kernel_rfl)
theorem clock_ReadCode.ok (n : Nat) : FunC Try.prog 26 (clock_ReadCode.E n) := funC_of follows tab_ok Try.func26 (T := clock_ReadCode.T) (ann := clock_ReadCode.ann) (ins := clock_ReadCode.ins) (outs := clock_ReadCode.outs) (n := n) (fun k => TOk.cons (kit_Up.ok k) (TOk.nil)) (by kernel_rfl) (by kernel_rfl)
theorem perigeetop_TopCodesAreTold.ok (n : Nat) : FunC Try.prog 5 (perigeetop_TopCodesAreTold.E n) := funC_of follows tab_ok Try.func5 (T := perigeetop_TopCodesAreTold.T) (ann := perigeetop_TopCodesAreTold.ann) (ins := perigeetop_TopCodesAreTold.ins) (outs := perigeetop_TopCodesAreTold.outs) (n := n) (fun k => TOk.cons (clock_Code.ok k) (TOk.cons (perigeetop_turns.ok k) (TOk.cons (telemetry_Filled.ok k) (TOk.cons (clock_ReadCode.ok k) (TOk.nil))))) (by kernel_rfl) (by kernel_rfl)
end Go.Proofs.Ytcefbdknoelacaa.A

-- YtcefbdknoelacaaPk
set_option linter.unusedVariables false
set_option linter.unusedSimpArgs false
namespace Go.Proofs.Ytcefbdknoelacaa.Pure
open Go Go.Proofs.Ytcefbdknoelacaa.A

def Ev {α : Type} (g : Nat → Option α) (r : α) : Prop := ∃ k, ∀ n, k ≤ n → g n = some r
theorem Ev.now {α : Type} (r : α) : Ev (fun _ => some r) r := ⟨0, fun _ _ => rfl⟩
theorem Ev.rounds {α : Type} {g : Nat → Option α} {r : α} (h : Ev g r) : ∃ k, g k = some r := let ⟨K, h⟩ := h; ⟨K, h K (Nat.le_refl _)⟩
theorem Ev.bind {α β : Type} {g : Nat → Option α} {f : Nat → α → Option β} {a : α} {r : β} (h : Ev g a) (k : Ev (fun n => f n a) r) : Ev (fun n => (g n).bind (f n)) r := by
 obtain ⟨K, h⟩ := h
 obtain ⟨K', k⟩ := k
 refine ⟨max K K', fun n hn => ?_⟩
 simp only [h n (by omega), Option.bind_some]
 exact k n (by omega)
theorem Ev.step {α : Type} {g f : Nat → Option α} {r : α} (h : ∀ k, g (k + 1) = f k) (k : Ev f r) : Ev g r := by
 obtain ⟨K, k⟩ := k
 refine ⟨K + 1, fun n hn => ?_⟩
 obtain ⟨m, rfl⟩ : ∃ m, n = m + 1 := ⟨n - 1, by omega⟩
 rw [h]
 exact k m (by omega)
theorem Ev.eq {α : Type} {g f : Nat → Option α} {r : α} (h : ∀ k, g k = f k) (k : Ev f r) : Ev g r := by
 obtain ⟨K, k⟩ := k
 exact ⟨K, fun n hn => (h n).trans (k n hn)⟩
theorem less_total : ∀ a b : List UInt8, (Op.bytesLess a b || a == b) = !Op.bytesLess b a := by
 intro a
 induction a with
 | nil => intro b; cases b <;> simp [Op.bytesLess]
 | cons x a ih =>
  intro b
  cases b with
  | nil => simp [Op.bytesLess]
  | cons y b =>
   have := ih b
   have e1 : Op.bytesLess (x :: a) (y :: b) = (decide (x < y) || (x == y && Op.bytesLess a b)) := by rw [Op.bytesLess]
   have e2 : Op.bytesLess (y :: b) (x :: a) = (decide (y < x) || (y == x && Op.bytesLess b a)) := by rw [Op.bytesLess]
   rw [e1, e2]
   rcases Nat.lt_trichotomy x.toNat y.toNat with h | h | h
   ·have h1 : x < y := UInt8.lt_iff_toNat_lt.2 h
    have h2 : ¬ y < x := fun h' => by have := UInt8.lt_iff_toNat_lt.1 h'; omega
    have h3 : ¬ y = x := fun h' => by subst h'; omega
    simp [h1, h2, h3]
   ·have h3 : x = y := UInt8.toNat_inj.1 h
    subst h3
    have h2 : ¬ x < x := fun h' => by have := UInt8.lt_iff_toNat_lt.1 h'; omega
    simpa [h2] using this
   ·have h1 : y < x := UInt8.lt_iff_toNat_lt.2 h
    have h2 : ¬ x < y := fun h' => by have := UInt8.lt_iff_toNat_lt.1 h'; omega
    have h3 : ¬ x = y := fun h' => by subst h'; omega
    simp [h1, h2, h3]

theorem w64 {x : Int} (h : -9223372036854775808 ≤ x) (h' : x ≤ 9223372036854775807) : IntKind.wrap .i64 x = x := by
 have e1 : (2 : Int) ^ 64 = 18446744073709551616 := rfl
 have e2 : (2 : Int) ^ (64 - 1) = 9223372036854775808 := rfl
 simp only [IntKind.wrap, IntKind.bits, IntKind.signed, e1, e2, Bool.true_and, decide_eq_true_eq]
 by_cases hh : x % 18446744073709551616 ≥ 9223372036854775808
 ·rw [if_pos hh]; omega
 ·rw [if_neg hh]; omega
theorem Ev.yes {α : Type} {c : Prop} {hd : Decidable c} {g g' : Nat → Option α} {r : α} (h : c) (e : Ev g r) : Ev (fun k => if c then g k else g' k) r := by
 simp only [if_pos h]; exact e
theorem Ev.no {α : Type} {c : Prop} {hd : Decidable c} {g g' : Nat → Option α} {r : α} (h : ¬ c) (e : Ev g' r) : Ev (fun k => if c then g k else g' k) r := by
 simp only [if_neg h]; exact e
theorem Ev.unique {α : Type} {g : Nat → Option α} {r s : α} (h : Ev g r) (h' : Ev g s) : r = s := by
 obtain ⟨K, h⟩ := h
 obtain ⟨K', h'⟩ := h'
 have h1 := h (max K K') (by omega)
 have h2 := h' (max K K') (by omega)
 rw [h1] at h2
 injection h2
theorem Ev.some {α : Type} {o : Option α} {r : α} (h : o = some r) : Ev (fun _ => o) r := by subst h; exact Ev.now _

theorem mul_bd {x y A B : Int} (hx : -A ≤ x) (hx' : x ≤ A) (hy : -B ≤ y) (hy' : y ≤ B) : -(A * B) ≤ x * y ∧ x * y ≤ A * B := by
 have hA : 0 ≤ A := by omega
 have hB : 0 ≤ B := by omega
 have h1 : x.natAbs ≤ A.natAbs := by omega
 have h2 : y.natAbs ≤ B.natAbs := by omega
 have h3 : (x * y).natAbs ≤ (A * B).natAbs := by rw [Int.natAbs_mul, Int.natAbs_mul]; exact Nat.mul_le_mul h1 h2
 have h4 : 0 ≤ A * B := Int.mul_nonneg hA hB
 omega

theorem getD_nat {α : Type} (z : α) (l : List α) (i : Nat) (h : i < l.length) : l.getD i z = l[i] := by
 simp [List.getD_eq_getElem?_getD, List.getElem?_eq_getElem h]
theorem getD_mem {α : Type} {z : α} {l : List α} {i : Nat} (h : i < l.length) : l.getD i z ∈ l := by
 rw [getD_nat z l i h]; exact List.getElem_mem h

theorem bl_cons (x y : UInt8) (a b : List UInt8) : Op.bytesLess (x :: a) (y :: b) = (decide (x < y) || (x == y && Op.bytesLess a b)) := by rw [Op.bytesLess]
theorem less_irrefl (a : List UInt8) : Op.bytesLess a a = false := by
 have := less_total a a
 cases h : Op.bytesLess a a with
 | false => rfl
 | true => rw [h] at this; simp at this
theorem less_ne {a b : List UInt8} (h : Op.bytesLess a b = true) : a ≠ b := by
 intro e
 subst e
 rw [less_irrefl] at h
 cases h
theorem less_tri {a b : List UInt8} (h1 : ¬ Op.bytesLess a b = true) (h2 : a ≠ b) : Op.bytesLess b a = true := by
 have := less_total a b
 rw [show Op.bytesLess a b = false by simpa using h1, show (a == b) = false by simpa using h2] at this
 simpa using this.symm
theorem less_trans : ∀ {a b c : List UInt8}, Op.bytesLess a b = true → Op.bytesLess b c = true → Op.bytesLess a c = true := by
 intro a
 induction a with
 | nil =>
  intro b c h1 h2
  cases b with
  | nil => simp [Op.bytesLess] at h1
  | cons y b =>
   cases c with
   | nil => simp [Op.bytesLess] at h2
   | cons z c => simp [Op.bytesLess]
 | cons x a ih =>
  intro b c h1 h2
  cases b with
  | nil => simp [Op.bytesLess] at h1
  | cons y b =>
   cases c with
   | nil => simp [Op.bytesLess] at h2
   | cons z c =>
    rw [bl_cons] at h1 h2 ⊢
    simp only [Bool.or_eq_true, Bool.and_eq_true, decide_eq_true_eq, beq_iff_eq] at h1 h2 ⊢
    rcases h1 with h1 | ⟨rfl, h1⟩
    ·rcases h2 with h2 | ⟨rfl, h2⟩
     ·left
      have := UInt8.lt_iff_toNat_lt.1 h1
      have := UInt8.lt_iff_toNat_lt.1 h2
      exact UInt8.lt_iff_toNat_lt.2 (by omega)
     ·exact .inl h1
    ·rcases h2 with h2 | ⟨rfl, h2⟩
     ·exact .inl h2
     ·exact .inr ⟨rfl, ih h1 h2⟩
def Twin {α β : Type} (g : Nat → Option α) (g' : Nat → Option β) (R : α → β → Prop) : Prop := ∃ a b, Ev g a ∧ Ev g' b ∧ R a b
section
variable {α β γ δ : Type} {R : α → β → Prop}
theorem Twin.of {g : Nat → Option α} {g' : Nat → Option β} {a : α} {b : β} (h : Ev g a) (h' : Ev g' b) (r : R a b) : Twin g g' R := ⟨a, b, h, h', r⟩
theorem Twin.now {a : α} {b : β} (r : R a b) : Twin (fun _ => some a) (fun _ => some b) R := ⟨a, b, Ev.now _, Ev.now _, r⟩
theorem Twin.mono {g : Nat → Option α} {g' : Nat → Option β} {S : α → β → Prop} (h : Twin g g' S) (k : ∀ a b, S a b → R a b) : Twin g g' R := by
 obtain ⟨a, b, h1, h2, h3⟩ := h
 exact ⟨a, b, h1, h2, k a b h3⟩
theorem Twin.stepL {g f : Nat → Option α} {g' : Nat → Option β} (h : ∀ k, g (k + 1) = f k) (t : Twin f g' R) : Twin g g' R := by
 obtain ⟨a, b, h1, h2, h3⟩ := t
 exact ⟨a, b, Ev.step h h1, h2, h3⟩
theorem Twin.stepR {g : Nat → Option α} {g' f : Nat → Option β} (h : ∀ k, g' (k + 1) = f k) (t : Twin g f R) : Twin g g' R := by
 obtain ⟨a, b, h1, h2, h3⟩ := t
 exact ⟨a, b, h1, Ev.step h h2, h3⟩
theorem Twin.ifL {c : Prop} {hd : Decidable c} {g f : Nat → Option α} {g' : Nat → Option β} (y : c → Twin g g' R) (n : ¬ c → Twin f g' R) : Twin (fun k => if c then g k else f k) g' R := by
 by_cases h : c
 ·simp only [if_pos h]; exact y h
 ·simp only [if_neg h]; exact n h
theorem Twin.ifR {c : Prop} {hd : Decidable c} {g : Nat → Option α} {g' f : Nat → Option β} (y : c → Twin g g' R) (n : ¬ c → Twin g f R) : Twin g (fun k => if c then g' k else f k) R := by
 by_cases h : c
 ·simp only [if_pos h]; exact y h
 ·simp only [if_neg h]; exact n h
theorem Twin.bind {g : Nat → Option γ} {g' : Nat → Option δ} {S : γ → δ → Prop} {f : Nat → γ → Option α} {f' : Nat → δ → Option β} (t : Twin g g' S) (k : ∀ a b, S a b → Twin (fun n => f n a) (fun n => f' n b) R) :
 Twin (fun n => (g n).bind (f n)) (fun n => (g' n).bind (f' n)) R := by
 obtain ⟨a, b, h1, h2, h3⟩ := t
 obtain ⟨a', b', h1', h2', h3'⟩ := k a b h3
 exact ⟨a', b', Ev.bind h1 h1', Ev.bind h2 h2', h3'⟩
theorem Twin.bindL {g : Nat → Option γ} {f : Nat → γ → Option α} {g' : Nat → Option β} {a : γ} (h : Ev g a) (t : Twin (fun n => f n a) g' R) : Twin (fun n => (g n).bind (f n)) g' R := by
 obtain ⟨a', b', h1', h2', h3'⟩ := t
 exact ⟨a', b', Ev.bind h h1', h2', h3'⟩
theorem Twin.bindR {g : Nat → Option γ} {f : Nat → γ → Option β} {g' : Nat → Option α} {a : γ} (h : Ev g a) (t : Twin g' (fun n => f n a) R) : Twin g' (fun n => (g n).bind (f n)) R := by
 obtain ⟨a', b', h1', h2', h3'⟩ := t
 exact ⟨a', b', h1', Ev.bind h h2', h3'⟩
theorem Twin.right {g : Nat → Option α} {g' : Nat → Option β} (t : Twin g g' R) : ∃ b, Ev g' b := by
 obtain ⟨a, b, h1, h2, h3⟩ := t
 exact ⟨b, h2⟩
theorem Ev.split {c : Prop} {hd : Decidable c} {g f : Nat → Option α} {r : α} (y : c → Ev g r) (n : ¬ c → Ev f r) : Ev (fun k => if c then g k else f k) r := by
 by_cases h : c
 ·simp only [if_pos h]; exact y h
 ·simp only [if_neg h]; exact n h
theorem Ev.is {v r : α} (h : v = r) : Ev (fun _ => Option.some v) r := by subst h; exact Ev.now _
end
theorem Twin.yesL {α β : Type} {R : α → β → Prop} {c : Prop} {hd : Decidable c} {g f : Nat → Option α} {g' : Nat → Option β} (h : c) (y : Twin g g' R) : Twin (fun k => if c then g k else f k) g' R := Twin.ifL (fun _ => y) (fun n => absurd h n)
theorem Twin.noL {α β : Type} {R : α → β → Prop} {c : Prop} {hd : Decidable c} {g f : Nat → Option α} {g' : Nat → Option β} (h : ¬ c) (y : Twin f g' R) : Twin (fun k => if c then g k else f k) g' R := Twin.ifL (fun n => absurd n h) (fun _ => y)
theorem Twin.yesR {α β : Type} {R : α → β → Prop} {c : Prop} {hd : Decidable c} {g : Nat → Option α} {g' f : Nat → Option β} (h : c) (y : Twin g g' R) : Twin g (fun k => if c then g' k else f k) R := Twin.ifR (fun _ => y) (fun n => absurd h n)
theorem Twin.noR {α β : Type} {R : α → β → Prop} {c : Prop} {hd : Decidable c} {g : Nat → Option α} {g' f : Nat → Option β} (h : ¬ c) (y : Twin g f R) : Twin g (fun k => if c then g' k else f k) R := Twin.ifR (fun n => absurd n h) (fun _ => y)

end Go.Proofs.Ytcefbdknoelacaa.Pure

-- YtcefbdknoelacaaQ1
set_option linter.unusedVariables false
set_option linter.unusedSimpArgs false
namespace Go.Proofs.Ytcefbdknoelacaa.Pure
open Go Go.Proofs.Ytcefbdknoelacaa.A

theorem in_ev (n : Nat) (a l h : Int) : kit_In.f n a l h = some (decide (l ≤ a ∧ a ≤ h), ()) := by
 rw [kit_In.f_eq]
 by_cases h1 : l ≤ a <;> simp [h1]
theorem within_ev (n : Nat) (a l h : Int) : perigeeref7_within.f n a l h = some (decide (l ≤ a ∧ a ≤ h), ()) := by
 rw [perigeeref7_within.f_eq]
 by_cases h1 : l ≤ a <;> simp [h1]

theorem word_loop (s : List UInt8) (hs : s.length ≤ 140737488351232) : ∀ (d i : Nat), i + d = s.length → (i = 0 → 97 ≤ ((s.getD 0 0).toNat : Int) ∧ ((s.getD 0 0).toNat : Int) ≤ 122) →
 Twin (fun k => telemetry_Word.c1 k s (s.length : Int) i) (fun k => perigeeref7_IsWord.c1 k s (s.length : Int) i) (fun a b => a = b) := by
 intro d
 induction d with
 | zero =>
  intro i hi h0
  refine Twin.stepL (fun k => by rw [telemetry_Word.c1_eq]) (Twin.stepR (fun k => by rw [perigeeref7_IsWord.c1_eq]) ?_)
  simp only [decide_eq_true_eq]
  repeat' (first | (exfalso; omega) | (refine Twin.ifL (fun h_ => ?_) (fun h_ => ?_)) | (refine Twin.ifR (fun h_ => ?_) (fun h_ => ?_)))
  exact Twin.now rfl
 | succ d ih =>
  intro i hi h0
  have next := ih (i + 1) (by omega) (by omega)
  refine Twin.stepL (fun k => by rw [telemetry_Word.c1_eq]) (Twin.stepR (fun k => by rw [perigeeref7_IsWord.c1_eq]) ?_)
  rw [w64 (x := (i : Int) + 1) (by omega) (by omega)]
  have h1 : (i : Int) = 0 → 97 ≤ ((s.getD ((i : Int)).toNat 0).toNat : Int) ∧ ((s.getD ((i : Int)).toNat 0).toNat : Int) ≤ 122 := by
   intro h
   rw [h]
   exact h0 (by omega)
  generalize ((s.getD ((i : Int)).toNat 0).toNat : Int) = c at h1
  simp only [decide_eq_true_eq, Bool.not_eq_true', decide_eq_false_iff_not]
  repeat' (first | (exfalso; omega) | (refine Twin.ifL (fun h_ => ?_) (fun h_ => ?_)) | (refine Twin.ifR (fun h_ => ?_) (fun h_ => ?_)))
  all_goals first | exact next | exact Twin.now rfl
theorem word_ev (s : List UInt8) (hs : s.length ≤ 140737488351232) : ∃ b, Ev (fun k => telemetry_Word.f k s) (b, ()) ∧ Ev (fun k => perigeeref7_IsWord.f k s) (b, ()) := by
 have : Twin (fun k => telemetry_Word.f k s) (fun k => perigeeref7_IsWord.f k s) (fun a b => a = b) := by
  have e : (s = []) ↔ s.length = 0 := by cases s <;> simp
  simp only [telemetry_Word.f_eq, perigeeref7_IsWord.f_eq, within_ev, Option.bind_some, decide_eq_true_eq, Bool.not_eq_true', decide_eq_false_iff_not, e]
  repeat' (first | (exfalso; omega) | (refine Twin.ifL (fun h_ => ?_) (fun h_ => ?_)) | (refine Twin.ifR (fun h_ => ?_) (fun h_ => ?_)))
  all_goals (try refine Twin.stepL (fun k => by rw [telemetry_Word.c0_eq]) ?_)
  all_goals (try refine Twin.stepR (fun k => by rw [perigeeref7_IsWord.c0_eq]) ?_)
  all_goals first | exact Twin.now rfl | exact word_loop s hs s.length 0 (by omega) (fun _ => by omega) | skip
  all_goals (try (refine Twin.stepL (fun k => by rw [telemetry_Word.c1_eq]) ?_; simp only [decide_eq_true_eq, Bool.not_eq_true', decide_eq_false_iff_not, Int.toNat_zero]; (repeat' (first | (exfalso; omega) | (refine Twin.ifL (fun h_ => ?_) (fun h_ => ?_))))))
  all_goals first | exact Twin.now rfl | exact absurd trivial ‹¬True›
 obtain ⟨a, b, h1, h2, rfl⟩ := this
 exact ⟨a.1, h1, h2⟩

theorem shl_one : ∀ n : Nat, n ≤ 24 → shlI .i64 1 (n : Int) = ((2 ^ n : Nat) : Int) := by
 intro n hn
 have : ∀ m : Fin 25, shlI .i64 1 ((m.val : Nat) : Int) = ((2 ^ m.val : Nat) : Int) := by decide +kernel
 exact this ⟨n, by omega⟩
theorem shl_neg : ∀ n : Nat, n ≤ 24 → shlI .i64 (-1) (n : Int) = -((2 ^ n : Nat) : Int) := by
 intro n hn
 have : ∀ m : Fin 25, shlI .i64 (-1) ((m.val : Nat) : Int) = -((2 ^ m.val : Nat) : Int) := by decide +kernel
 exact this ⟨n, by omega⟩
abbrev Par := DParameter
def lo (p : Par) : Int := if p.2.2.1 = true then -((2 ^ (p.2.1 - 1).toNat : Nat) : Int) else 0
def hi (p : Par) : Int := if p.2.2.1 = true then ((2 ^ (p.2.1 - 1).toNat : Nat) : Int) - 1 else ((2 ^ p.2.1.toNat : Nat) : Int) - 1
theorem pow_bd : ∀ n : Nat, n ≤ 24 → 1 ≤ 2 ^ n ∧ 2 ^ n ≤ 16777216 := by decide +kernel
theorem span_ev (k : Nat) (p : Par) (h : 1 ≤ p.2.1 ∧ p.2.1 ≤ 24) : telemetry_span.f k p = some (lo p, hi p, ()) := by
 obtain ⟨n, hn⟩ : ∃ n : Nat, p.2.1 = (n : Int) + 1 := ⟨(p.2.1 - 1).toNat, by omega⟩
 have b1 := pow_bd n (by omega)
 have b2 := pow_bd (n + 1) (by omega)
 rw [telemetry_span.f_eq]
 unfold lo hi
 rw [hn, w64 (x := (n : Int) + 1 - 1) (by omega) (by omega), show (n : Int) + 1 - 1 = n by omega, shl_neg n (by omega), shl_one n (by omega), show ((n : Int) + 1) = ((n + 1 : Nat) : Int) by omega, shl_one (n + 1) (by omega)]
 rw [w64 (by omega) (by omega), w64 (by omega) (by omega)]
 simp only [Int.toNat_natCast]
 by_cases hb : p.2.2.1 = true
 ·simp [hb]
 ·simp [hb]
  omega
theorem ends_ev (k : Nat) (p : Par) (h : 1 ≤ p.2.1 ∧ p.2.1 ≤ 24) : perigeeref7_ends.f k p = some (lo p, hi p, ()) := by
 rw [← span_ev k p h, perigeeref7_ends.f_eq, telemetry_span.f_eq]
theorem isRaw_ev (k : Nat) (p : Par) (h : 1 ≤ p.2.1 ∧ p.2.1 ≤ 24) (n : Int) : perigeeref7_isRaw.f k p n = some (decide (lo p ≤ n ∧ n ≤ hi p), ()) := by
 rw [perigeeref7_isRaw.f_eq, ends_ev k p h]
 simp only [Option.bind_some, within_ev]
def Dots (p : Par) (i : Nat) : Prop := ∀ j : Nat, i ≤ j → j < p.2.2.2.1.length → (lo p ≤ (p.2.2.2.1.getD j (Ty.dflt YShare)).1 ∧ (p.2.2.2.1.getD j (Ty.dflt YShare)).1 ≤ hi p) ∧ (-1000000000 ≤ (p.2.2.2.1.getD j (Ty.dflt YShare)).2 ∧ (p.2.2.2.1.getD j (Ty.dflt YShare)).2 ≤ 1000000000) ∧ (0 < j → (p.2.2.2.1.getD ((j : Int) - 1).toNat (Ty.dflt YShare)).1 < (p.2.2.2.1.getD j (Ty.dflt YShare)).1)
theorem dots_loop (p : Par) (hb : 1 ≤ p.2.1 ∧ p.2.1 ≤ 24) (hl : p.2.2.2.1.length ≤ 50) (s : Int)
 (hs : Ev (fun k => if 50 < (p.2.2.2.2.length : Int) then some (2, ()) else perigeeref7_checkPoints.c1 k p.1 p.2.1 p.2.2.1 p.2.2.2.1 p.2.2.2.2 p.2.2.2.2 (p.2.2.2.2.length : Int) 0) (s, ())) : ∀ (d i : Nat), i + d = p.2.2.2.1.length →
 Twin (fun k => telemetry_checkDots.c0 k p.1 p.2.1 p.2.2.1 p.2.2.2.1 p.2.2.2.2 (lo p) (hi p) p.2.2.2.1 (p.2.2.2.1.length : Int) i) (fun k => perigeeref7_checkPoints.c0 k p.1 p.2.1 p.2.2.1 p.2.2.2.1 p.2.2.2.2 p.2.2.2.1 (p.2.2.2.1.length : Int) i)
  (fun a b => b.1 = (if a.1 = 0 then s else a.1) ∧ (a.1 = 0 → Dots p i)) := by
 intro d
 induction d with
 | zero =>
  intro i hij
  refine Twin.stepL (fun k => by rw [telemetry_checkDots.c0_eq]) (Twin.stepR (fun k => by rw [perigeeref7_checkPoints.c0_eq]) ?_)
  simp only [decide_eq_true_eq]
  refine Twin.noL (by omega) (Twin.noR (by omega) ?_)
  exact ⟨(0, ()), (s, ()), Ev.now _, hs, rfl, fun _ j h1 h2 => by omega⟩
 | succ d ih =>
  intro i hij
  have next := ih (i + 1) (by omega)
  refine Twin.stepL (fun k => by rw [telemetry_checkDots.c0_eq]) (Twin.stepR (fun k => by rw [perigeeref7_checkPoints.c0_eq]) ?_)
  have hraw : ∀ k n, perigeeref7_isRaw.f k (p.1, (p.2.1, (p.2.2.1, (p.2.2.2.1, p.2.2.2.2)))) n = some (decide (lo p ≤ n ∧ n ≤ hi p), ()) := fun k n => isRaw_ev k p hb n
  rw [w64 (x := (i : Int) - 1) (by omega) (by omega), w64 (x := (i : Int) + 1) (by omega) (by omega)]
  simp only [in_ev, hraw, within_ev, Option.bind_some, decide_eq_true_eq, Bool.not_eq_true', decide_eq_false_iff_not, Int.toNat_natCast]
  have fin : (lo p ≤ (p.2.2.2.1.getD i (Ty.dflt YShare)).1 ∧ (p.2.2.2.1.getD i (Ty.dflt YShare)).1 ≤ hi p) → (-1000000000 ≤ (p.2.2.2.1.getD i (Ty.dflt YShare)).2 ∧ (p.2.2.2.1.getD i (Ty.dflt YShare)).2 ≤ 1000000000) → (0 < i → (p.2.2.2.1.getD ((i : Int) - 1).toNat (Ty.dflt YShare)).1 < (p.2.2.2.1.getD i (Ty.dflt YShare)).1) →
   Twin (fun k => telemetry_checkDots.c0 k p.1 p.2.1 p.2.2.1 p.2.2.2.1 p.2.2.2.2 (lo p) (hi p) p.2.2.2.1 (p.2.2.2.1.length : Int) ((i : Int) + 1)) (fun k => perigeeref7_checkPoints.c0 k p.1 p.2.1 p.2.2.1 p.2.2.2.1 p.2.2.2.2 p.2.2.2.1 (p.2.2.2.1.length : Int) ((i : Int) + 1))
    (fun a b => b.1 = (if a.1 = 0 then s else a.1) ∧ (a.1 = 0 → Dots p i)) := by
   intro g1 g2 hlt
   refine Twin.mono next fun a b ⟨h1, h2⟩ => ⟨h1, fun ha j h3 h4 => ?_⟩
   rcases Nat.lt_or_ge i j with h5 | h5
   ·exact h2 ha j h5 h4
   ·obtain rfl : j = i := by omega
    exact ⟨g1, g2, hlt⟩
  repeat' (first | (exfalso; omega) | (refine Twin.ifL (fun h_ => ?_) (fun h_ => ?_)) | (refine Twin.ifR (fun h_ => ?_) (fun h_ => ?_)))
  all_goals first | exact Twin.now ⟨rfl, fun h => absurd h (by decide)⟩ | exact fin (by omega) (by omega) (fun _ => by omega)
theorem dots_ev (p : Par) (hb : 1 ≤ p.2.1 ∧ p.2.1 ≤ 24) (s : Int)
 (hs : Ev (fun k => if 50 < (p.2.2.2.2.length : Int) then some (2, ()) else perigeeref7_checkPoints.c1 k p.1 p.2.1 p.2.2.1 p.2.2.2.1 p.2.2.2.2 p.2.2.2.2 (p.2.2.2.2.length : Int) 0) (s, ())) :
 Twin (fun k => telemetry_checkDots.f k p) (fun k => perigeeref7_checkPoints.f k p) (fun a b => b.1 = (if a.1 = 0 then s else a.1) ∧ (a.1 = 0 → Dots p 0 ∧ p.2.2.2.1.length ≤ 50 ∧ p.2.2.2.1.length ≠ 1)) := by
 simp only [telemetry_checkDots.f_eq, perigeeref7_checkPoints.f_eq, span_ev _ p hb, Option.bind_some, decide_eq_true_eq]
 repeat' (first | (exfalso; omega) | (refine Twin.ifL (fun h_ => ?_) (fun h_ => ?_)) | (refine Twin.ifR (fun h_ => ?_) (fun h_ => ?_)))
 ·exact Twin.now ⟨rfl, fun h => absurd h (by decide)⟩
 ·exact Twin.now ⟨rfl, fun h => absurd h (by decide)⟩
 ·exact Twin.mono (dots_loop p hb (by omega) s hs p.2.2.2.1.length 0 (by omega)) fun a b ⟨h1, h2⟩ => ⟨h1, fun h => ⟨h2 h, by omega, by omega⟩⟩

theorem words_loop (p : Par) (hb : 1 ≤ p.2.1 ∧ p.2.1 ≤ 24) (hl : p.2.2.2.2.length ≤ 50) (hn : ∀ z ∈ p.2.2.2.2, z.2.length ≤ 140737488351232) : ∀ (d i : Nat), i + d = p.2.2.2.2.length →
 Twin (fun k => telemetry_checkWords.c0 k p.1 p.2.1 p.2.2.1 p.2.2.2.1 p.2.2.2.2 (lo p) (hi p) p.2.2.2.2 (p.2.2.2.2.length : Int) i) (fun k => perigeeref7_checkPoints.c1 k p.1 p.2.1 p.2.2.1 p.2.2.2.1 p.2.2.2.2 p.2.2.2.2 (p.2.2.2.2.length : Int) i) (fun a b => a = b) := by
 intro d
 induction d with
 | zero =>
  intro i hij
  refine Twin.stepL (fun k => by rw [telemetry_checkWords.c0_eq]) (Twin.stepR (fun k => by rw [perigeeref7_checkPoints.c1_eq]) ?_)
  simp only [decide_eq_true_eq]
  refine Twin.noL (by omega) (Twin.noR (by omega) ?_)
  exact Twin.now rfl
 | succ d ih =>
  intro i hij
  have next := ih (i + 1) (by omega)
  refine Twin.stepL (fun k => by rw [telemetry_checkWords.c0_eq]) (Twin.stepR (fun k => by rw [perigeeref7_checkPoints.c1_eq]) ?_)
  have hraw : ∀ k n, perigeeref7_isRaw.f k (p.1, (p.2.1, (p.2.2.1, (p.2.2.2.1, p.2.2.2.2)))) n = some (decide (lo p ≤ n ∧ n ≤ hi p), ()) := fun k n => isRaw_ev k p hb n
  have h1 : ((i : Nat) : Int) < (p.2.2.2.2.length : Int) := by omega
  rw [w64 (x := (i : Int) - 1) (by omega) (by omega), w64 (x := (i : Int) + 1) (by omega) (by omega)]
  simp only [in_ev, hraw, within_ev, Option.bind_some, decide_eq_true_eq, Bool.not_eq_true', decide_eq_false_iff_not, Int.toNat_natCast]
  simp only [if_pos h1, if_pos (show (0 : Int) ≤ (i : Int) ∧ (i : Int) < (p.2.2.2.2.length : Int) by omega)]
  obtain ⟨b, e1, e2⟩ := word_ev (p.2.2.2.2.getD i (Ty.dflt YDue)).2 (hn _ (getD_mem (by omega)))
  refine Twin.ifL (fun h2 => Twin.yesR h2 (Twin.now rfl)) (fun h2 => Twin.noR h2 ?_)
  refine Twin.bindL e1 (Twin.bindR e2 ?_)
  refine Twin.ifL (fun h3 => Twin.yesR h3 (Twin.now rfl)) (fun h3 => Twin.noR h3 ?_)
  repeat' (first | (exfalso; omega) | (refine Twin.ifL (fun h_ => ?_) (fun h_ => ?_)) | (refine Twin.ifR (fun h_ => ?_) (fun h_ => ?_)))
  all_goals first | exact Twin.now rfl | exact next
theorem words_ev (p : Par) (hb : 1 ≤ p.2.1 ∧ p.2.1 ≤ 24) (hn : ∀ z ∈ p.2.2.2.2, z.2.length ≤ 140737488351232) :
 ∃ s, Ev (fun k => telemetry_checkWords.f k p) (s, ()) ∧ Ev (fun k => if 50 < (p.2.2.2.2.length : Int) then some (2, ()) else perigeeref7_checkPoints.c1 k p.1 p.2.1 p.2.2.1 p.2.2.2.1 p.2.2.2.2 p.2.2.2.2 (p.2.2.2.2.length : Int) 0) (s, ()) ∧ (s = 0 → p.2.2.2.2.length ≤ 50) := by
 have : Twin (fun k => telemetry_checkWords.f k p) (fun k => if 50 < (p.2.2.2.2.length : Int) then some (2, ()) else perigeeref7_checkPoints.c1 k p.1 p.2.1 p.2.2.1 p.2.2.2.1 p.2.2.2.2 p.2.2.2.2 (p.2.2.2.2.length : Int) 0) (fun a b => a = b ∧ (a.1 = 0 → p.2.2.2.2.length ≤ 50)) := by
  simp only [telemetry_checkWords.f_eq, span_ev _ p hb, Option.bind_some, decide_eq_true_eq]
  repeat' (first | (exfalso; omega) | (refine Twin.ifL (fun h_ => ?_) (fun h_ => ?_)) | (refine Twin.ifR (fun h_ => ?_) (fun h_ => ?_)))
  ·exact Twin.now ⟨rfl, fun h => absurd h (by decide)⟩
  ·exact Twin.mono (words_loop p hb (by omega) hn p.2.2.2.2.length 0 (by omega)) fun a b h => ⟨h, fun _ => by omega⟩
 obtain ⟨a, b, h1, h2, rfl, h3⟩ := this
 exact ⟨a.1, h1, h2, h3⟩

theorem first_ev (a b : Int) : Ev (fun k => kit_First.f k [a, b]) (if a = 0 then b else a, ()) := by
 refine Ev.eq (fun k => by rw [kit_First.f_eq]) ?_
 refine Ev.step (fun k => by rw [kit_First.c0_eq]) ?_
 simp only [decide_eq_true_eq, Bool.not_eq_true', decide_eq_false_iff_not, List.length_cons, List.length_nil]
 rw [show ([a, b] : List Int).getD (0 : Int).toNat 0 = a from rfl, show IntKind.wrap .i64 (0 + 1) = 1 from w64 (by omega) (by omega)]
 refine Ev.yes (by omega) (Ev.yes (by omega) (Ev.split (fun h => ?_) (fun h => ?_)))
 ·rw [if_neg h]
  exact Ev.now _
 ·have h : a = 0 := by simpa using h
  rw [if_pos h]
  refine Ev.step (fun k => by rw [kit_First.c0_eq]) ?_
  simp only [decide_eq_true_eq, Bool.not_eq_true', decide_eq_false_iff_not, List.length_cons, List.length_nil]
  rw [show ([a, b] : List Int).getD (1 : Int).toNat 0 = b from rfl, show IntKind.wrap .i64 (1 + 1) = 2 from w64 (by omega) (by omega)]
  refine Ev.yes (by omega) (Ev.yes (by omega) (Ev.split (fun h => Ev.now _) (fun h => ?_)))
  have h : b = 0 := by simpa using h
  refine Ev.step (fun k => by rw [kit_First.c0_eq]) ?_
  simp only [decide_eq_true_eq]
  refine Ev.no (by simp) ?_
  rw [h]
  exact Ev.now _

def Fit (p : Par) : Prop := (1 ≤ p.2.1 ∧ p.2.1 ≤ 24) ∧ Dots p 0 ∧ p.2.2.2.1.length ≤ 50 ∧ p.2.2.2.1.length ≠ 1 ∧ p.2.2.2.2.length ≤ 50
def Fits (l : List DParameter) (i : Nat) : Prop := ∀ j : Nat, i ≤ j → j < l.length → Fit (l.getD j (Ty.dflt YParameter)) ∧ (0 < j → lessS (l.getD ((j : Int) - 1).toNat (Ty.dflt YParameter)).1 (l.getD j (Ty.dflt YParameter)).1 = true)
theorem params_loop (l : List DParameter) (hl : l.length ≤ 500) (hn : ∀ z ∈ l, okT YParameter z) : ∀ (d i : Nat), i + d = l.length →
 Twin (fun k => telemetry_CheckParameters.c0 k l l (l.length : Int) i) (fun k => perigeeref7_CheckParameters.c0 k l l (l.length : Int) i) (fun a b => a = b ∧ (a.1 = 0 → Fits l i)) := by
 intro d
 induction d with
 | zero =>
  intro i hij
  refine Twin.stepL (fun k => by rw [telemetry_CheckParameters.c0_eq]) (Twin.stepR (fun k => by rw [perigeeref7_CheckParameters.c0_eq]) ?_)
  simp only [decide_eq_true_eq]
  refine Twin.noL (by omega) (Twin.noR (by omega) ?_)
  exact Twin.now ⟨rfl, fun _ j h1 h2 => by omega⟩
 | succ d ih =>
  intro i hij
  have next := ih (i + 1) (by omega)
  refine Twin.stepL (fun k => by rw [telemetry_CheckParameters.c0_eq]) (Twin.stepR (fun k => by rw [perigeeref7_CheckParameters.c0_eq]) ?_)
  have h1 : ((i : Nat) : Int) < (l.length : Int) := by omega
  have hp : okT YParameter (l.getD i (Ty.dflt YParameter)) := hn _ (getD_mem (by omega))
  rw [w64 (x := (i : Int) - 1) (by omega) (by omega), w64 (x := (i : Int) + 1) (by omega) (by omega)]
  simp only [in_ev, within_ev, Option.bind_some, decide_eq_true_eq, Bool.not_eq_true', decide_eq_false_iff_not, Int.toNat_natCast]
  simp only [if_pos h1, if_pos (show (0 : Int) ≤ (i : Int) ∧ (i : Int) < (l.length : Int) by omega)]
  obtain ⟨b, e1, e2⟩ := word_ev (l.getD i (Ty.dflt YParameter)).1 hp.1
  refine Twin.bindL e1 (Twin.bindR e2 ?_)
  refine Twin.ifL (fun h3 => Twin.yesR h3 (Twin.now ⟨rfl, fun h => absurd h (by decide)⟩)) (fun h3 => Twin.noR h3 ?_)
  refine Twin.ifL (fun h4 => Twin.yesR h4 (Twin.now ⟨rfl, fun h => absurd h (by decide)⟩)) (fun h4 => Twin.noR h4 ?_)
  have h4 : 1 ≤ (l.getD i (Ty.dflt YParameter)).2.1 ∧ (l.getD i (Ty.dflt YParameter)).2.1 ≤ 24 := by simpa using h4
  obtain ⟨s, w1, w2, w3⟩ := words_ev (l.getD i (Ty.dflt YParameter)) h4 (fun z hz => (hp.2.2.2.2.2.2 z hz).2)
  obtain ⟨a, c, d1, d2, d4, d3⟩ := dots_ev (l.getD i (Ty.dflt YParameter)) h4 s w2
  refine Twin.bindL d1 (Twin.bindL w1 (Twin.bindL (first_ev a.1 s) (Twin.bindR d2 ?_)))
  rw [d4]
  refine Twin.ifL (fun h5 => Twin.yesR h5 (Twin.now ⟨rfl, fun h => absurd h h5⟩)) (fun h5 => Twin.noR h5 ?_)
  have h5 : (if a.1 = 0 then s else a.1) = 0 := by simpa using h5
  have ha : a.1 = 0 := by
   by_cases h : a.1 = 0
   ·exact h
   ·rw [if_neg h] at h5; exact absurd h5 h
  rw [if_pos ha] at h5
  have fit : Fit (l.getD i (Ty.dflt YParameter)) := ⟨h4, (d3 ha).1, (d3 ha).2.1, (d3 ha).2.2, w3 h5⟩
  have fin : (0 < i → lessS (l.getD ((i : Int) - 1).toNat (Ty.dflt YParameter)).1 (l.getD i (Ty.dflt YParameter)).1 = true) → Twin (fun k => telemetry_CheckParameters.c0 k l l (l.length : Int) ((i : Int) + 1)) (fun k => perigeeref7_CheckParameters.c0 k l l (l.length : Int) ((i : Int) + 1)) (fun a b => a = b ∧ (a.1 = 0 → Fits l i)) := by
   intro hlt
   refine Twin.mono next fun a b ⟨h1, h2⟩ => ⟨h1, fun ha j h3 h4 => ?_⟩
   rcases Nat.lt_or_ge i j with h5 | h5
   ·exact h2 ha j h5 h4
   ·obtain rfl : j = i := by omega
    exact ⟨fit, hlt⟩
  refine Twin.ifL (fun h6 => Twin.yesR h6 ?_) (fun h6 => Twin.noR h6 (fin fun h => absurd h (by omega)))
  refine Twin.yesL (by omega) (Twin.yesR (by omega) ?_)
  refine Twin.ifL (fun h7 => Twin.yesR h7 (Twin.now ⟨rfl, fun h => absurd h (by decide)⟩)) (fun h7 => Twin.noR h7 (fin fun _ => by simpa using h7))
theorem params_ev (l : List DParameter) (h : okT (.sl YParameter) l) : ∃ c, Ev (fun k => telemetry_CheckParameters.f k l) (c, ()) ∧ Ev (fun k => perigeeref7_CheckParameters.f k l) (c, ()) ∧ (c = 0 → l.length ≤ 500 ∧ Fits l 0) := by
 have : Twin (fun k => telemetry_CheckParameters.f k l) (fun k => perigeeref7_CheckParameters.f k l) (fun a b => a = b ∧ (a.1 = 0 → l.length ≤ 500 ∧ Fits l 0)) := by
  simp only [telemetry_CheckParameters.f_eq, perigeeref7_CheckParameters.f_eq, decide_eq_true_eq]
  repeat' (first | (exfalso; omega) | (refine Twin.ifL (fun h_ => ?_) (fun h_ => ?_)) | (refine Twin.ifR (fun h_ => ?_) (fun h_ => ?_)))
  ·exact Twin.now ⟨rfl, fun h => absurd h (by decide)⟩
  ·exact Twin.mono (params_loop l (by omega) h.2.2 l.length 0 (by omega)) fun a b ⟨h1, h2⟩ => ⟨h1, fun h => ⟨by omega, h2 h⟩⟩
 obtain ⟨a, b, h1, h2, rfl, h3⟩ := this
 exact ⟨a.1, h1, h2, h3⟩
end Go.Proofs.Ytcefbdknoelacaa.Pure

-- YtcefbdknoelacaaQ2
set_option linter.unusedVariables false
set_option linter.unusedSimpArgs false
namespace Go.Proofs.Ytcefbdknoelacaa.Pure
open Go Go.Proofs.Ytcefbdknoelacaa.A

theorem u64_in {x : Int} (h : 0 ≤ x) (h' : x < 18446744073709551616) : IntKind.wrap .u64 x = x := by
 have e1 : (2 : Int) ^ 64 = 18446744073709551616 := rfl
 simp only [IntKind.wrap, IntKind.bits, IntKind.signed, e1, Bool.false_and]
 simp
 omega
theorem shr_half (x : Int) : shrI .u64 x 1 = x / 2 := by
 unfold shrI
 exact Int.fdiv_eq_ediv_of_nonneg _ (by decide)

abbrev nameOf (l : List DParameter) (j : Nat) : List UInt8 := (l.getD j (Ty.dflt YParameter)).1
theorem sorted {l : List DParameter} (h : Fits l 0) : ∀ (b a : Nat), a < b → b < l.length → lessS (nameOf l a) (nameOf l b) = true := by
 intro b
 induction b with
 | zero => intro a h1; omega
 | succ b ih =>
  intro a h1 h2
  have h3 := (h (b + 1) (by omega) h2).2 (by omega)
  rw [show (((b + 1 : Nat) : Int) - 1).toNat = b by omega] at h3
  rcases Nat.lt_or_ge a b with h4 | h4
  ·exact less_trans (ih a h4 (by omega)) h3
  ·obtain rfl : a = b := by omega
   exact h3
structure Place (l : List DParameter) (t : List UInt8) (p : Nat) : Prop where
 le : p ≤ l.length
 low : ∀ j, j < p → lessS (nameOf l j) t = true
 high : ∀ j, p ≤ j → j < l.length → ¬ lessS (nameOf l j) t = true
theorem search_loop (l : List DParameter) (hl : l.length ≤ 500) (hf : Fits l 0) (t : List UInt8) : ∀ (d i j : Nat), j = i + d → j ≤ l.length → (∀ m, m < i → lessS (nameOf l m) t = true) → (∀ m, j ≤ m → m < l.length → ¬ lessS (nameOf l m) t = true) →
 ∃ p, Place l t p ∧ Ev (fun k => slices_BinarySearchFunc_string.c0 k l t (l.length : Int) i j) ((p : Int), decide (p < l.length ∧ nameOf l p = t), ()) := by
 intro d
 induction d using Nat.strongRecOn with
 | _ d ih =>
  intro i j hj hjl hlow hhigh
  rcases Nat.eq_zero_or_pos d with h0 | h0
  ·subst h0
   have hij : j = i := by omega
   subst hij
   refine ⟨j, ⟨hjl, hlow, hhigh⟩, ?_⟩
   refine Ev.step (fun k => by rw [slices_BinarySearchFunc_string.c0_eq]) ?_
   simp only [decide_eq_true_eq, telemetry_parameter_1.f_eq, Option.bind_some]
   refine Ev.no (by omega) ?_
   by_cases h1 : (j : Int) < (l.length : Int)
   ·refine Ev.yes h1 (Ev.yes (by omega) (Ev.is ?_))
    rw [Int.toNat_natCast]
    have h2 := hhigh j (Nat.le_refl _) (by omega)
    unfold cmpS
    rw [if_neg h2]
    show ((j : Int), decide _, ()) = ((j : Int), decide (j < l.length ∧ (l.getD j (Ty.dflt YParameter)).1 = t), ())
    by_cases h4 : (l.getD j (Ty.dflt YParameter)).1 = t
    ·rw [h4, show lessS t t = false from less_irrefl t, decide_eq_true (p := j < l.length ∧ t = t) ⟨by omega, rfl⟩]
     rfl
    ·have h6 : lessS t (l.getD j (Ty.dflt YParameter)).1 = true := less_tri h2 h4
     rw [if_pos h6]
     rw [decide_eq_false (p := j < l.length ∧ (l.getD j (Ty.dflt YParameter)).1 = t) (fun h => h4 h.2)]
     rfl
   ·refine Ev.no h1 (Ev.is ?_)
    rw [decide_eq_false (p := j < l.length ∧ nameOf l j = t) (by omega)]
  ·have hm : ∃ m : Nat, IntKind.wrap .i64 (shrI .u64 (IntKind.wrap .u64 (IntKind.wrap .i64 ((i : Int) + (j : Int)))) 1) = (m : Int) ∧ m = (i + j) / 2 := by
    refine ⟨(i + j) / 2, ?_, rfl⟩
    rw [w64 (x := (i : Int) + (j : Int)) (by omega) (by omega), u64_in (by omega) (by omega), shr_half, w64 (by omega) (by omega)]
    omega
   obtain ⟨m, hm, hm2⟩ := hm
   have hmi : i ≤ m ∧ m < j := by omega
   rcases Classical.em (lessS (nameOf l m) t = true) with h1 | h1
   ·obtain ⟨p, hp, hev⟩ := ih (j - (m + 1)) (by omega) (m + 1) j (by omega) hjl (fun a ha => by
     rcases Nat.lt_or_ge a m with h2 | h2
     ·exact less_trans (sorted hf m a h2 (by omega)) h1
     ·obtain rfl : a = m := by omega
      exact h1) hhigh
    refine ⟨p, hp, ?_⟩
    refine Ev.step (fun k => by rw [slices_BinarySearchFunc_string.c0_eq]) ?_
    rw [hm, w64 (x := (m : Int) + 1) (by omega) (by omega)]
    simp only [decide_eq_true_eq, telemetry_parameter_1.f_eq, Option.bind_some, Int.toNat_natCast, cmpS]
    refine Ev.yes (by omega) (Ev.yes (by omega) (Ev.yes ?_ hev))
    rw [if_pos h1]; decide
   ·obtain ⟨p, hp, hev⟩ := ih (m - i) (by omega) i m (by omega) (by omega) hlow (fun a ha hb => by
     rcases Nat.lt_or_ge m a with h2 | h2
     ·intro h3
      exact h1 (less_trans (sorted hf a m h2 hb) h3)
     ·obtain rfl : a = m := by omega
      exact h1)
    refine ⟨p, hp, ?_⟩
    refine Ev.step (fun k => by rw [slices_BinarySearchFunc_string.c0_eq]) ?_
    rw [hm]
    simp only [decide_eq_true_eq, telemetry_parameter_1.f_eq, Option.bind_some, Int.toNat_natCast, cmpS]
    refine Ev.yes (by omega) (Ev.yes (by omega) (Ev.no ?_ hev))
    rw [if_neg h1]; split <;> omega

def findP (l : List DParameter) (t : List UInt8) : Option DParameter := l.find? fun p => decide (p.1 = t)
def fnd : Option DParameter → DParameter × Bool × Unit
 | some p => (p, true, ())
 | none => (([], (0, (false, ([], [])))), false, ())
theorem findP_some {l : List DParameter} {t : List UInt8} {p : DParameter} (h : findP l t = some p) : p ∈ l ∧ p.1 = t :=
 ⟨List.mem_of_find?_eq_some h, by simpa using List.find?_some h⟩
theorem findP_none {l : List DParameter} {t : List UInt8} (h : findP l t = none) : ∀ p ∈ l, p.1 ≠ t := by
 intro p hp e
 have := List.find?_eq_none.1 h p hp
 simp [e] at this
theorem inj_name {l : List DParameter} (hf : Fits l 0) {p q : DParameter} (hp : p ∈ l) (hq : q ∈ l) (h : p.1 = q.1) : p = q := by
 obtain ⟨i, hi, rfl⟩ := List.getElem_of_mem hp
 obtain ⟨j, hj, rfl⟩ := List.getElem_of_mem hq
 have no : ∀ a b : Nat, (ha : a < l.length) → (hb : b < l.length) → a < b → l[a].1 ≠ l[b].1 := by
  intro a b ha hb hab
  have := sorted hf b a hab hb
  unfold nameOf at this
  rw [getD_nat _ _ _ ha, getD_nat _ _ _ hb] at this
  exact less_ne this
 rcases Nat.lt_trichotomy i j with h1 | h1 | h1
 ·exact absurd h (no i j hi hj h1)
 ·subst h1; rfl
 ·exact absurd h.symm (no j i hj hi h1)
theorem findP_of {l : List DParameter} (hf : Fits l 0) {p : DParameter} (hp : p ∈ l) : findP l p.1 = some p := by
 cases h : findP l p.1 with
 | none => exact absurd rfl (findP_none h p hp)
 | some q => obtain ⟨h1, h2⟩ := findP_some h; rw [inj_name hf h1 hp h2]
theorem mem_fit {l : List DParameter} (hf : Fits l 0) {p : DParameter} (hp : p ∈ l) : Fit p := by
 obtain ⟨i, hi, rfl⟩ := List.getElem_of_mem hp
 have := (hf i (by omega) hi).1
 rw [getD_nat _ _ _ hi] at this
 exact this
theorem parameter_ev (l : List DParameter) (hl : l.length ≤ 500) (hf : Fits l 0) (t : List UInt8) : Ev (fun k => telemetry_parameter.f k l t) (fnd (findP l t)) := by
 obtain ⟨p, hp, hev⟩ := search_loop l hl hf t l.length 0 l.length (by omega) (by omega) (fun m h => by omega) (fun m h h' => by omega)
 refine Ev.eq (fun k => by rw [telemetry_parameter.f_eq, slices_BinarySearchFunc_string.f_eq]) ?_
 refine Ev.bind hev ?_
 by_cases h : p < l.length ∧ nameOf l p = t
 ·have : findP l t = some (l.getD p (Ty.dflt YParameter)) := by
   rw [← h.2]; exact findP_of hf (getD_mem h.1)
  rw [this]
  simp only [decide_eq_true h]
  refine Ev.no (by simp) (Ev.yes (by omega) ?_)
  rw [Int.toNat_natCast]
  exact Ev.now _
 ·have : findP l t = none := by
   cases e : findP l t with
   | none => rfl
   | some q =>
    exfalso
    obtain ⟨h1, h2⟩ := findP_some e
    obtain ⟨i, hi, rfl⟩ := List.getElem_of_mem h1
    have e1 : nameOf l i = t := by unfold nameOf; rw [getD_nat _ _ _ hi]; exact h2
    rcases Nat.lt_trichotomy i p with h3 | h3 | h3
    ·exact less_ne (hp.low i h3) e1
    ·subst h3; exact h ⟨hi, e1⟩
    ·have := sorted hf i p h3 hi
     rw [e1] at this
     exact hp.high p (Nat.le_refl _) (by omega) this
  rw [this]
  simp only [decide_eq_false h]
  exact Ev.yes (by simp) (Ev.now _)
theorem find_ev (l : List DParameter) (hl : l.length ≤ 4611686018427387904) (t : List UInt8) : Ev (fun k => perigeeref7_find.f k l t) (fnd (findP l t)) := by
 have loop : ∀ (d i : Nat), i + d = l.length → Ev (fun k => perigeeref7_find.c0 k t [] 0 false [] [] l (l.length : Int) i) (fnd (findP (l.drop i) t)) := by
  intro d
  induction d with
  | zero =>
   intro i hi
   refine Ev.step (fun k => by rw [perigeeref7_find.c0_eq]) ?_
   simp only [decide_eq_true_eq]
   refine Ev.no (by omega) ?_
   rw [List.drop_of_length_le (by omega)]
   exact Ev.now _
  | succ d ih =>
   intro i hi
   have next := ih (i + 1) (by omega)
   refine Ev.step (fun k => by rw [perigeeref7_find.c0_eq]) ?_
   rw [w64 (x := (i : Int) + 1) (by omega) (by omega), List.drop_eq_getElem_cons (show i < l.length by omega)]
   simp only [decide_eq_true_eq, Int.toNat_natCast, getD_nat (Ty.dflt YParameter) l i (by omega)]
   refine Ev.yes (by omega) (Ev.yes (by omega) (Ev.split (fun h => ?_) (fun h => ?_)))
   ·unfold findP
    rw [List.find?_cons_of_pos (by simpa using h)]
    exact Ev.now _
   ·unfold findP
    rw [List.find?_cons_of_neg (by simpa using h)]
    exact next
 refine Ev.eq (fun k => by rw [perigeeref7_find.f_eq]) ?_
 exact loop l.length 0 (by omega)

def findL (l : List DLayout) (t : List UInt8) : Option DLayout := l.find? fun p => decide (p.1 = t)
def fndL : Option DLayout → DLayout × Bool × Unit
 | some p => (p, true, ())
 | none => (([], []), false, ())
theorem layout_ev (l : List DLayout) (hl : l.length ≤ 4611686018427387904) (t : List UInt8) : Ev (fun k => telemetry_layout.f k l t) (fndL (findL l t)) := by
 have loop : ∀ (d i : Nat), i + d = l.length → Ev (fun k => telemetry_layout.c0 k t [] [] l (l.length : Int) i) (fndL (findL (l.drop i) t)) := by
  intro d
  induction d with
  | zero =>
   intro i hi
   refine Ev.step (fun k => by rw [telemetry_layout.c0_eq]) ?_
   simp only [decide_eq_true_eq]
   refine Ev.no (by omega) ?_
   rw [List.drop_of_length_le (by omega)]
   exact Ev.now _
  | succ d ih =>
   intro i hi
   have next := ih (i + 1) (by omega)
   refine Ev.step (fun k => by rw [telemetry_layout.c0_eq]) ?_
   rw [w64 (x := (i : Int) + 1) (by omega) (by omega), List.drop_eq_getElem_cons (show i < l.length by omega)]
   simp only [decide_eq_true_eq, Int.toNat_natCast, getD_nat (Ty.dflt YLayout) l i (by omega)]
   refine Ev.yes (by omega) (Ev.yes (by omega) (Ev.split (fun h => ?_) (fun h => ?_)))
   ·unfold findL
    rw [List.find?_cons_of_pos (by simpa using h)]
    exact Ev.now _
   ·unfold findL
    rw [List.find?_cons_of_neg (by simpa using h)]
    exact next
 refine Ev.eq (fun k => by rw [telemetry_layout.f_eq]) ?_
 exact loop l.length 0 (by omega)
theorem findL_some {l : List DLayout} {t : List UInt8} {p : DLayout} (h : findL l t = some p) : p ∈ l ∧ p.1 = t :=
 ⟨List.mem_of_find?_eq_some h, by simpa using List.find?_some h⟩
end Go.Proofs.Ytcefbdknoelacaa.Pure

-- YtcefbdknoelacaaBt
set_option linter.unusedVariables false
set_option linter.unusedSimpArgs false
namespace Go.Proofs.Ytcefbdknoelacaa.Pure
open Go Go.Proofs.Ytcefbdknoelacaa.A

theorem wrap_u8 {x : Int} (h : 0 ≤ x) (h' : x < 256) : IntKind.wrap .u8 x = x := by
 have e1 : (2 : Int) ^ 8 = 256 := rfl
 simp only [IntKind.wrap, IntKind.bits, IntKind.signed, e1, Bool.false_and]
 simp
 omega
theorem u8_nat (x : Int) : ∃ n : Nat, IntKind.wrap .u8 x = (n : Int) ∧ n < 256 ∧ (n : Int) = x % 256 := by
 have e1 : (2 : Int) ^ 8 = 256 := rfl
 refine ⟨(x % 256).toNat, ?_, by omega, by omega⟩
 simp only [IntKind.wrap, IntKind.bits, IntKind.signed, e1, Bool.false_and]
 simp
 omega
theorem and_bit (x : Int) : bitsOp .i64 .and x 1 = x % 2 := by
 have e0 : (BitVec.ofInt 64 x &&& BitVec.ofInt 64 1).toNat = (x % 2).toNat := by
  have e1 : (BitVec.ofInt 64 1).toNat = 1 := by decide
  rw [BitVec.toNat_and, e1, Nat.and_one_is_mod, BitVec.toNat_ofInt]
  have : ((2 ^ 64 : Nat) : Int) = 18446744073709551616 := rfl
  rw [this]
  omega
 show IntKind.wrap .i64 ((BitVec.ofInt 64 x &&& BitVec.ofInt 64 1).toNat : Nat) = x % 2
 rw [e0, w64 (by omega) (by omega)]
 omega
theorem or8 (a b : Nat) (ha : a < 256) (hb : b < 256) : bitsOp .u8 .or (a : Int) (b : Int) = ((a ||| b : Nat) : Int) := by
 have e0 : (BitVec.ofInt 8 (a : Int) ||| BitVec.ofInt 8 (b : Int)).toNat = a ||| b := by
  have : ((2 ^ 8 : Nat) : Int) = 256 := rfl
  rw [BitVec.toNat_or, BitVec.toNat_ofInt, BitVec.toNat_ofInt, this]
  rw [show ((a : Int) % 256).toNat = a by omega, show ((b : Int) % 256).toNat = b by omega]
 have h1 : a ||| b < 2 ^ 8 := Nat.or_lt_two_pow (by omega) (by omega)
 show IntKind.wrap .u8 ((BitVec.ofInt 8 (a : Int) ||| BitVec.ofInt 8 (b : Int)).toNat : Nat) = ((a ||| b : Nat) : Int)
 rw [e0, wrap_u8 (by omega) (by omega)]
theorem shr64 (x : Int) (k : Nat) (hk : k ≤ 64) : shrI .i64 x (k : Int) = x / 2 ^ k := by
 unfold shrI
 rw [Int.toNat_natCast, show IntKind.bits .i64 = 64 from rfl, Nat.min_eq_left hk]
 exact Int.fdiv_eq_ediv_of_nonneg _ (by have : (0 : Int) < 2 ^ k := Int.pow_pos (by omega); omega)
theorem shl8 (n k : Nat) (hn : n ≤ 1) (hk : k ≤ 7) : shlI .u8 (n : Int) (k : Int) = ((n <<< k : Nat) : Int) := by
 have : ∀ (n : Fin 2) (k : Fin 8), shlI .u8 ((n.val : Nat) : Int) ((k.val : Nat) : Int) = ((n.val <<< k.val : Nat) : Int) := by decide +kernel
 exact this ⟨n, by omega⟩ ⟨k, by omega⟩
def bitAt (b : List Int) (i : Nat) : Bool := (b.getD (i / 8) 0).toNat.testBit (7 - i % 8)
def Bytes (b : List Int) : Prop := ∀ x ∈ b, 0 ≤ x ∧ x < 256
theorem Bytes.at {b : List Int} (h : Bytes b) (i : Nat) : 0 ≤ b.getD i 0 ∧ b.getD i 0 < 256 := by
 rcases Nat.lt_or_ge i b.length with hi | hi
 ·exact h _ (getD_mem hi)
 ·rw [List.getD_eq_getElem?_getD, List.getElem?_eq_none hi]; simp
theorem bitAt_out {b : List Int} {i : Nat} (h : 8 * b.length ≤ i) : bitAt b i = false := by
 unfold bitAt
 rw [List.getD_eq_getElem?_getD, List.getElem?_eq_none (by omega)]
 simp
theorem bytes_ext {b c : List Int} (hb : Bytes b) (hc : Bytes c) (hl : b.length = c.length) (h : ∀ i, i < 8 * b.length → bitAt b i = bitAt c i) : b = c := by
 refine List.ext_getElem hl fun j h1 h2 => ?_
 have b1 := hb.at j
 have c1 := hc.at j
 have e1 : b.getD j 0 = b[j] := getD_nat 0 b j h1
 have e2 : c.getD j 0 = c[j] := getD_nat 0 c j h2
 have : (b.getD j 0).toNat = (c.getD j 0).toNat := by
  refine Nat.eq_of_testBit_eq fun t => ?_
  rcases Nat.lt_or_ge t 8 with ht | ht
  ·have := h (8 * j + (7 - t)) (by omega)
   unfold bitAt at this
   rw [show (8 * j + (7 - t)) / 8 = j by omega, show 7 - (8 * j + (7 - t)) % 8 = t by omega] at this
   exact this
  ·have p : (256 : Nat) ≤ 2 ^ t := Nat.pow_le_pow_right (n := 2) (by omega) ht
   rw [Nat.testBit_lt_two_pow (by omega), Nat.testBit_lt_two_pow (by omega)]
 omega
structure Pack (b : List Int) (L : List Bool) : Prop where
 by_ : Bytes b
 len : b.length = (L.length + 7) / 8
 bit : ∀ i, bitAt b i = L.getD i false
theorem Pack.unique {b c : List Int} {L : List Bool} (h : Pack b L) (h' : Pack c L) : b = c :=
 bytes_ext h.by_ h'.by_ (h.len.trans h'.len.symm) fun i _ => (h.bit i).trans (h'.bit i).symm
theorem Pack.nil : Pack [] [] := ⟨fun x h => by simp at h, rfl, fun i => by simp [bitAt]⟩
def putAt (b : List Int) (i : Nat) (x : Nat) : List Int := b.set (i / 8) ((((b.getD (i / 8) 0).toNat ||| (x <<< (7 - i % 8))) : Nat) : Int)
theorem one_shl_testBit (k t : Nat) : (1 <<< k).testBit t = decide (k = t) := by
 rw [Nat.one_shiftLeft]; exact Nat.testBit_two_pow
theorem bitAt_put {b : List Int} (hb : Bytes b) (i : Nat) (hi : i < 8 * b.length) (x : Nat) (hx : x ≤ 1) (j : Nat) : bitAt (putAt b i x) j = (bitAt b j || (decide (j = i) && decide (x = 1))) := by
 unfold bitAt putAt
 rw [List.getD_eq_getElem?_getD, List.getElem?_set]
 by_cases h1 : i / 8 = j / 8
 ·rw [if_pos h1, if_pos (by omega)]
  simp only [Option.getD_some, Int.toNat_natCast, Nat.testBit_or, ← h1]
  congr 1
  rcases (show x = 0 ∨ x = 1 by omega) with rfl | rfl
  ·simp
  ·rw [one_shl_testBit]
   simp only [decide_true, Bool.and_true]
   exact decide_eq_decide.2 ⟨fun h => by omega, fun h => by omega⟩
 ·rw [if_neg h1, ← List.getD_eq_getElem?_getD]
  have : ¬ j = i := fun h => h1 (by rw [h])
  simp [this]
theorem bytes_put {b : List Int} (hb : Bytes b) (i : Nat) (x : Nat) (hx : x ≤ 1) : Bytes (putAt b i x) := by
 intro y hy
 unfold putAt at hy
 rcases List.mem_or_eq_of_mem_set hy with h | h
 ·exact hb y h
 ·have := hb.at (i / 8)
  have h1 : (b.getD (i / 8) 0).toNat ||| (x <<< (7 - i % 8)) < 2 ^ 8 := by
   refine Nat.or_lt_two_pow (by omega) ?_
   rw [Nat.shiftLeft_eq]
   have : 2 ^ (7 - i % 8) ≤ 2 ^ 7 := Nat.pow_le_pow_right (by omega) (by omega)
   have : x * 2 ^ (7 - i % 8) ≤ 1 * 2 ^ (7 - i % 8) := Nat.mul_le_mul_right _ hx
   omega
  rw [h]
  omega
theorem putAt_length (b : List Int) (i x : Nat) : (putAt b i x).length = b.length := by simp [putAt]
theorem Pack.push {b : List Int} {L : List Bool} (h : Pack b L) (x : Nat) (hx : x ≤ 1) : Pack (putAt (if L.length % 8 = 0 then b ++ [0] else b) L.length x) (L ++ [decide (x = 1)]) := by
 have hb2 : Bytes (if L.length % 8 = 0 then b ++ [0] else b) := by
  split
  ·intro y hy
   rcases List.mem_append.1 hy with hy | hy
   ·exact h.by_ y hy
   ·simp at hy; omega
  ·exact h.by_
 have hl2 : (if L.length % 8 = 0 then b ++ [0] else b).length = (L.length + 8) / 8 := by
  have := h.len
  split
  ·simp only [List.length_append, List.length_cons, List.length_nil]; omega
  ·omega
 have hbit : ∀ j, bitAt (if L.length % 8 = 0 then b ++ [0] else b) j = bitAt b j := by
  intro j
  split
  ·unfold bitAt
   congr 2
   rw [List.getD_eq_getElem?_getD, List.getD_eq_getElem?_getD]
   rcases Nat.lt_trichotomy (j / 8) b.length with h1 | h1 | h1
   ·rw [List.getElem?_append_left h1]
   ·rw [List.getElem?_append_right (by omega), h1, Nat.sub_self, List.getElem?_eq_none (Nat.le_refl _)]; rfl
   ·rw [List.getElem?_eq_none (by simp; omega), List.getElem?_eq_none (by omega)]
  ·rfl
 refine ⟨bytes_put hb2 _ x hx, ?_, fun i => ?_⟩
 ·rw [putAt_length, hl2, List.length_append, List.length_cons, List.length_nil]
 ·rw [bitAt_put hb2 _ (by rw [hl2]; omega) x hx, hbit, h.bit]
  rw [List.getD_eq_getElem?_getD, List.getD_eq_getElem?_getD, List.getElem?_append]
  rcases Nat.lt_trichotomy i L.length with h1 | h1 | h1
  ·rw [if_pos h1]
   have : ¬ i = L.length := by omega
   simp [this]
  ·subst h1
   simp
  ·rw [if_neg (by omega), List.getElem?_eq_none (by omega), List.getElem?_eq_none (by simp; omega)]
   have : ¬ i = L.length := by omega
   simp [this]

def nbits (n : Int) : Nat → List Bool
 | 0 => []
 | k + 1 => decide (n / 2 ^ k % 2 = 1) :: nbits n k
def num : Int → List Bool → Int
 | a, [] => a
 | a, b :: L => num (2 * a + (if b = true then 1 else 0)) L
theorem nbits_length (n : Int) : ∀ k, (nbits n k).length = k
 | 0 => rfl
 | k + 1 => by simp [nbits, nbits_length n k]
end Go.Proofs.Ytcefbdknoelacaa.Pure

-- YtcefbdknoelacaaLp
set_option linter.unusedVariables false
set_option linter.unusedSimpArgs false
namespace Go.Proofs.Ytcefbdknoelacaa.Pure
open Go Go.Proofs.Ytcefbdknoelacaa.A

theorem Ev.rng {α β σ : Type} (z : α) (l : List α) (hl : l.length ≤ 4611686018427387904) {g : Nat → σ → Int → Option β} {B : Nat → σ → Int → Option β} {E : Nat → σ → Option β}
 (hg : ∀ k s i, g (k + 1) s i = if decide (i < (l.length : Int)) = true then (if (0 : Int) ≤ i ∧ i < (l.length : Int) then B k s i else none) else E k s)
 (Inv : Nat → σ → Prop) (spec : List α → Nat → σ → β)
 (hfin : ∀ s, Inv l.length s → Ev (fun k => E k s) (spec [] l.length s))
 (hstep : ∀ (i : Nat) (x : α) (xs : List α) (s : σ), i < l.length → x ∈ l → l.drop i = x :: xs → l.getD i z = x → IntKind.wrap .i64 ((i : Int) + 1) = (i : Int) + 1 → Inv i s →
  (∀ s', Inv (i + 1) s' → Ev (fun k => g k s' ((i : Int) + 1)) (spec xs (i + 1) s')) → Ev (fun k => B k s i) (spec (x :: xs) i s)) :
 ∀ (i : Nat) (s : σ), i ≤ l.length → Inv i s → Ev (fun k => g k s i) (spec (l.drop i) i s) := by
 have loop : ∀ (d i : Nat) (s : σ), i + d = l.length → Inv i s → Ev (fun k => g k s i) (spec (l.drop i) i s) := by
  intro d
  induction d with
  | zero =>
   intro i s hi hs
   have : i = l.length := by omega
   subst this
   refine Ev.step (fun k => hg k s _) ?_
   refine Ev.no (by simp) ?_
   rw [List.drop_length]
   exact hfin s hs
  | succ d ih =>
   intro i s hi hs
   refine Ev.step (fun k => hg k s _) ?_
   refine Ev.yes (by simp; omega) (Ev.yes (by omega) ?_)
   rw [List.drop_eq_getElem_cons (show i < l.length by omega)]
   refine hstep i _ _ s (by omega) (List.getElem_mem _) (List.drop_eq_getElem_cons (by omega)) (getD_nat z l i (by omega)) (w64 (by omega) (by omega)) hs fun s' hs' => ?_
   have := ih (i + 1) s' (by omega) hs'
   rw [show ((i + 1 : Nat) : Int) = (i : Int) + 1 by omega] at this
   exact this
 exact fun i s hi hs => loop (l.length - i) i s (by omega) hs
theorem Ev.cast {α : Type} {g : Nat → Option α} {a b : α} (h : a = b) (e : Ev g a) : Ev g b := h ▸ e

end Go.Proofs.Ytcefbdknoelacaa.Pure

-- YtcefbdknoelacaaQ4
set_option linter.unusedVariables false
set_option linter.unusedSimpArgs false
namespace Go.Proofs.Ytcefbdknoelacaa.Pure
open Go Go.Proofs.Ytcefbdknoelacaa.A

theorem has_iff (s : List UInt8) : ∀ (m : List (List UInt8 × Bool)), (∀ p ∈ m, p.2 = true) → (mapGet .str .bool s m false = true ↔ s ∈ m.map (·.1))
 | [], _ => by simp [mapGet]
 | p :: m, h => by
  have ih := has_iff s m (fun q hq => h q (by simp [hq]))
  unfold mapGet
  by_cases e : p.1 = s
  ·have e2 : eqV .str p.1 s = true := decide_eq_true e
   rw [if_pos e2]
   simp [h p (by simp), e]
  ·have e2 : ¬ eqV .str p.1 s = true := fun hh => e (of_decide_eq_true hh)
   rw [if_neg e2, ih]
   have : ¬ s = p.1 := fun hh => e hh.symm
   simp [this]
theorem put_keys (s : List UInt8) : ∀ (m : List (List UInt8 × Bool)), (∀ p ∈ m, p.2 = true) → (∀ p ∈ mapPut .str .bool s true m, p.2 = true) ∧ (∀ t, t ∈ (mapPut .str .bool s true m).map (·.1) ↔ (t ∈ m.map (·.1) ∨ t = s))
 | [], _ => by simp [mapPut]
 | p :: m, h => by
  have ih := put_keys s m (fun q hq => h q (by simp [hq]))
  unfold mapPut
  by_cases e : p.1 = s
  ·have e2 : eqV .str p.1 s = true := decide_eq_true e
   rw [if_pos e2]
   refine ⟨fun q hq => ?_, fun t => ?_⟩
   ·rcases List.mem_cons.1 hq with rfl | hq
    ·rfl
    ·exact h q (by simp [hq])
   ·simp only [List.map_cons, List.mem_cons, e]
    exact ⟨fun h => h.elim .inr fun h => .inl (.inr h), fun h => h.elim (fun h => h) .inl⟩
  ·have e2 : ¬ eqV .str p.1 s = true := fun hh => e (of_decide_eq_true hh)
   rw [if_neg e2]
   refine ⟨fun q hq => ?_, fun t => ?_⟩
   ·rcases List.mem_cons.1 hq with rfl | hq
    ·exact h q (by simp)
    ·exact ih.1 q hq
   ·simp only [List.map_cons, List.mem_cons, ih.2 t]
    exact ⟨fun h => h.elim (fun h => .inl (.inl h)) fun h => h.elim (fun h => .inl (.inr h)) .inr, fun h => h.elim (fun h => h.elim .inl fun h => .inr (.inl h)) fun h => .inr (.inr h)⟩
def ckParts (p : List DParameter) : List (List UInt8) → List (List UInt8) → Int
 | [], _ => 0
 | s :: ss, seen => if findP p s = none then 9 else if s ∈ seen then 7 else ckParts p ss (seen ++ [s])
theorem ckParts_congr (p : List DParameter) : ∀ (ss a b : List (List UInt8)), (∀ t, t ∈ a ↔ t ∈ b) → ckParts p ss a = ckParts p ss b
 | [], _, _, _ => rfl
 | s :: ss, a, b, h => by
  unfold ckParts
  simp only [h s]
  rw [ckParts_congr p ss (a ++ [s]) (b ++ [s]) (fun t => by simp [h t])]
theorem ckParts_ok (p : List DParameter) : ∀ (ss a : List (List UInt8)), ckParts p ss a = 0 → (∀ s ∈ ss, ∃ y, findP p s = some y)
 | [], _, _ => by simp
 | s :: ss, a, h => by
  unfold ckParts at h
  by_cases h1 : findP p s = none
  ·rw [if_pos h1] at h; exact absurd h (by decide)
  ·rw [if_neg h1] at h
   by_cases h2 : s ∈ a
   ·rw [if_pos h2] at h; exact absurd h (by decide)
   ·rw [if_neg h2] at h
    have ih := ckParts_ok p ss _ h
    intro t ht
    rcases List.mem_cons.1 ht with rfl | ht
    ·cases e : findP p t with
     | none => exact absurd e h1
     | some y => exact ⟨y, rfl⟩
    ·exact ih t ht
theorem fnd_ok (o : Option DParameter) : ((fnd o).2.1 = false) = (o = none) := by cases o <;> simp [fnd]
theorem checkParts_ev (p : List DParameter) (hp : p.length ≤ 500) (hf : Fits p 0) (ss : List (List UInt8)) (hs : ss.length ≤ 4611686018427387904) :
 Ev (fun k => telemetry_checkParts.f k p ss) (if ss = [] then 9 else if 200 < ss.length then 2 else ckParts p ss [], ()) := by
 refine Ev.eq (fun k => by rw [telemetry_checkParts.f_eq]) ?_
 simp only [decide_eq_true_eq]
 refine Ev.split (fun h => ?_) (fun h => ?_)
 ·rw [if_pos (List.length_eq_zero_iff.1 (by omega))]; exact Ev.now _
 ·rw [if_neg (fun e => h (by rw [e]; rfl))]
  refine Ev.split (fun h2 => ?_) (fun h2 => ?_)
  ·rw [if_pos (by omega)]; exact Ev.now _
  ·rw [if_neg (by omega)]
   have := Ev.rng (σ := List (List UInt8 × Bool)) [] ss hs (g := fun k s i => telemetry_checkParts.c0 k p s ss (ss.length : Int) i) (fun k s i => telemetry_checkParts.c0_eq _ _ _ _ _ _)
    (fun _ m => ∀ q ∈ m, q.2 = true) (fun l _ m => (ckParts p l (m.map (·.1)), ())) (fun s _ => Ev.now _) (fun i x xs m hi hx _ hget hw hm next => by
     simp only [Int.toNat_natCast, hget, hw]
     refine Ev.bind (parameter_ev p hp hf x) ?_
     simp only [Bool.not_eq_true', fnd_ok]
     unfold ckParts
     refine Ev.split (fun h => ?_) (fun h => ?_)
     ·rw [if_pos h]; exact Ev.now _
     ·rw [if_neg h]
      refine Ev.split (fun h => ?_) (fun h => ?_)
      ·rw [if_pos ((has_iff x m hm).1 h)]; exact Ev.now _
      ·rw [if_neg (fun e => h ((has_iff x m hm).2 e))]
       have k := put_keys x m hm
       refine Ev.cast ?_ (next _ k.1)
       rw [ckParts_congr p xs _ (m.map (·.1) ++ [x]) (fun t => by rw [k.2 t]; simp)]) 0 [] (by omega) (by simp)
   exact this

theorem index_str (l : List (List UInt8)) (hl : l.length ≤ 4611686018427387904) (v : List UInt8) : ∃ n, Ev (fun k => slices_Index_string.f k l v) (n, ()) ∧ (0 ≤ n ↔ v ∈ l) := by
 have h := Ev.rng (σ := Unit) [] l hl (g := fun k s i => slices_Index_string.c0 k l v (l.length : Int) i) (fun k s i => slices_Index_string.c0_eq _ _ _ _ _)
  (fun _ _ => True) (fun r i _ => (if v ∈ r then ((i + r.idxOf v : Nat) : Int) else -1, ())) (fun _ _ => Ev.is (by simp)) (fun i x xs s hi hx _ hget hw _ next => by
   simp only [Int.toNat_natCast, hget, hw, decide_eq_true_eq]
   refine Ev.split (fun h => ?_) (fun h => ?_)
   ·subst h
    refine Ev.is ?_
    simp
   ·refine Ev.cast ?_ (next () trivial)
    have h' : ¬ x = v := fun e => h e.symm
    by_cases hm : v ∈ xs
    ·rw [if_pos hm, if_pos (by simp [hm]), List.idxOf_cons, show (x == v) = false by simpa using h']
     simp only [cond_false]
     congr 1; omega
    ·rw [if_neg hm, if_neg (by simp [hm, h])]) 0 () (by omega) trivial
 refine ⟨_, Ev.eq (fun k => by rw [slices_Index_string.f_eq]; rfl) h, ?_⟩
 simp only [List.drop_zero]
 split <;> rename_i hm
 ·exact ⟨fun _ => hm, fun _ => by omega⟩
 ·exact ⟨fun h => by omega, fun h => absurd h hm⟩
theorem contains_str (l : List (List UInt8)) (hl : l.length ≤ 4611686018427387904) (v : List UInt8) : Ev (fun k => slices_Contains_string.f k l v) (decide (v ∈ l), ()) := by
 obtain ⟨n, h1, h2⟩ := index_str l hl v
 refine Ev.eq (fun k => by rw [slices_Contains_string.f_eq]) (Ev.bind h1 (Ev.is ?_))
 simp only [h2]

def LOk (p : List DParameter) (x : DLayout) : Prop := x.2 ≠ [] ∧ x.2.length ≤ 200 ∧ ∀ s ∈ x.2, ∃ y, findP p s = some y
theorem refParts_loop (p : List DParameter) (hp : p.length ≤ 500) (hf : Fits p 0) (l : List DLayout) (ii : Int) (t7 : List UInt8) (ss : List (List UInt8)) (hs : ss.length ≤ 200) (l2 : List DLayout) (len t22 : Int) :
 ∀ (d i : Nat), i + d = ss.length → ∀ r, (ckParts p (ss.drop i) (ss.take i) = 0 → Ev (fun k => if 0 < ii then (if (0 : Int) ≤ IntKind.wrap .i64 (ii - 1) ∧ IntKind.wrap .i64 (ii - 1) < (l.length : Int) then (if (lessS (l.getD (IntKind.wrap .i64 (ii - 1)).toNat (Ty.dflt YLayout)).1 t7) = false then some (8, ()) else perigeeref7_CheckLayouts.c0 k p l l2 len (IntKind.wrap .i64 (t22 + 1))) else none) else perigeeref7_CheckLayouts.c0 k p l l2 len (IntKind.wrap .i64 (t22 + 1))) r) →
 (ckParts p (ss.drop i) (ss.take i) ≠ 0 → r = (ckParts p (ss.drop i) (ss.take i), ())) →
 Ev (fun k => perigeeref7_CheckLayouts.c1 k p l ii t7 ss l2 len t22 ss (ss.length : Int) i) r := by
 intro d
 induction d with
 | zero =>
  intro i hi r h0 h1
  refine Ev.step (fun k => by rw [perigeeref7_CheckLayouts.c1_eq]) ?_
  simp only [decide_eq_true_eq, Bool.not_eq_true']
  refine Ev.no (by omega) (h0 ?_)
  rw [List.drop_of_length_le (by omega)]
  rfl
 | succ d ih =>
  intro i hi r h0 h1
  have next := ih (i + 1) (by omega) r
  refine Ev.step (fun k => by rw [perigeeref7_CheckLayouts.c1_eq]) ?_
  have hd := List.drop_eq_getElem_cons (show i < ss.length by omega)
  have ht : ss.take (i + 1) = ss.take i ++ [ss[i]] := by rw [List.take_add_one, List.getElem?_eq_getElem (by omega)]; rfl
  rw [w64 (x := (i : Int) + 1) (by omega) (by omega)]
  simp only [decide_eq_true_eq, Bool.not_eq_true', Int.toNat_natCast, getD_nat [] ss i (by omega), List.drop_zero]
  refine Ev.yes (by omega) (Ev.yes (by omega) (Ev.bind (find_ev p (by omega) ss[i]) ?_))
  simp only [fnd_ok]
  rw [hd] at h0 h1
  unfold ckParts at h0 h1
  refine Ev.split (fun h => ?_) (fun h => ?_)
  ·rw [if_pos h] at h1
   rw [h1 (by decide)]
   exact Ev.now _
  ·rw [if_neg h] at h0 h1
   refine Ev.yes (by omega) (Ev.bind (contains_str _ (by simp; omega) _) ?_)
   simp only [decide_eq_true_eq]
   refine Ev.split (fun h => ?_) (fun h => ?_)
   ·rw [if_pos h] at h1
    rw [h1 (by decide)]
    exact Ev.now _
   ·rw [if_neg h] at h0 h1
    rw [ht] at next
    exact next h0 h1
theorem layouts_ev (p : List DParameter) (l : List DLayout) (h : okT (.sl YParameter) p) (h2 : okT (.sl YLayout) l) : ∃ c, Ev (fun k => telemetry_CheckLayouts.f k p l) (c, ()) ∧ Ev (fun k => perigeeref7_CheckLayouts.f k p l) (c, ()) ∧
 (c = 0 → (p.length ≤ 500 ∧ Fits p 0) ∧ l.length ≤ 100 ∧ ∀ x ∈ l, LOk p x) := by
 obtain ⟨c, c1, c2, c3⟩ := params_ev p h
 have : Twin (fun k => telemetry_CheckLayouts.f k p l) (fun k => perigeeref7_CheckLayouts.f k p l) (fun a b => a = b ∧ (a.1 = 0 → (p.length ≤ 500 ∧ Fits p 0) ∧ l.length ≤ 100 ∧ ∀ x ∈ l, LOk p x)) := by
  simp only [telemetry_CheckLayouts.f_eq, perigeeref7_CheckLayouts.f_eq, decide_eq_true_eq, Bool.not_eq_true', decide_eq_false_iff_not]
  refine Twin.bindL c1 (Twin.bindR c2 ?_)
  by_cases hc : c = 0
  ·subst hc
   obtain ⟨hp, hf⟩ := c3 rfl
   refine Twin.noL (fun h => h rfl) (Twin.noR (fun h => h rfl) ?_)
   refine Twin.ifL (fun h1 => Twin.yesR h1 (Twin.now ⟨rfl, fun h => absurd h (by decide)⟩)) (fun h1 => Twin.noR h1 ?_)
   have loop : ∀ (d i : Nat), i + d = l.length → Twin (fun k => telemetry_CheckLayouts.c0 k p l l (l.length : Int) i) (fun k => perigeeref7_CheckLayouts.c0 k p l l (l.length : Int) i) (fun a b => a = b ∧ (a.1 = 0 → ∀ x ∈ l.drop i, LOk p x)) := by
    intro d
    induction d with
    | zero =>
     intro i hi
     refine Twin.stepL (fun k => by rw [telemetry_CheckLayouts.c0_eq]) (Twin.stepR (fun k => by rw [perigeeref7_CheckLayouts.c0_eq]) ?_)
     simp only [decide_eq_true_eq]
     refine Twin.noL (by omega) (Twin.noR (by omega) (Twin.now ⟨rfl, fun _ x hx => ?_⟩))
     rw [List.drop_of_length_le (by omega)] at hx
     simp at hx
    | succ d ih =>
     intro i hi
     have next := ih (i + 1) (by omega)
     have hx : okT YLayout l[i] := h2.2.2 _ (List.getElem_mem _)
     have hs : l[i].2.length ≤ 140737488351232 := hx.2.1
     have hd := List.drop_eq_getElem_cons (show i < l.length by omega)
     refine Twin.stepL (fun k => by rw [telemetry_CheckLayouts.c0_eq]) (Twin.stepR (fun k => by rw [perigeeref7_CheckLayouts.c0_eq]) ?_)
     rw [w64 (x := (i : Int) + 1) (by omega) (by omega)]
     simp only [decide_eq_true_eq, Bool.not_eq_true', decide_eq_false_iff_not, Int.toNat_natCast, getD_nat (Ty.dflt YLayout) l i (by omega)]
     refine Twin.yesL (by omega) (Twin.yesR (by omega) (Twin.yesL (by omega) (Twin.yesR (by omega) ?_)))
     obtain ⟨b, e1, e2⟩ := word_ev l[i].1 hx.1
     refine Twin.bindL e1 (Twin.bindR e2 ?_)
     refine Twin.ifL (fun h3 => Twin.yesR h3 (Twin.now ⟨rfl, fun h => absurd h (by decide)⟩)) (fun h3 => Twin.noR h3 ?_)
     refine Twin.bindL (checkParts_ev p hp hf l[i].2 (by omega)) ?_
     by_cases g1 : l[i].2 = []
     ·rw [if_pos g1]
      exact Twin.yesL (show ¬ (9 : Int) = 0 by decide) (Twin.yesR (by rw [g1]; rfl) (Twin.now ⟨rfl, fun h => absurd h (by decide)⟩))
     ·have g1' : ¬ (l[i].2.length : Int) = 0 := fun e => g1 (List.length_eq_zero_iff.1 (by omega))
      rw [if_neg g1]
      refine Twin.noR g1' ?_
      by_cases g2 : 200 < l[i].2.length
      ·rw [if_pos g2]
       exact Twin.yesL (show ¬ (2 : Int) = 0 by decide) (Twin.yesR (by omega) (Twin.now ⟨rfl, fun h => absurd h (by decide)⟩))
      ·rw [if_neg g2]
       refine Twin.noR (by omega) ?_
       by_cases g3 : ckParts p l[i].2 [] = 0
       ·rw [g3]
        refine Twin.noL (fun h => h rfl) ?_
        have ok : LOk p l[i] := ⟨g1, by omega, ckParts_ok p _ _ g3⟩
        have fin : Twin (fun k => telemetry_CheckLayouts.c0 k p l l (l.length : Int) ((i : Int) + 1)) (fun k => perigeeref7_CheckLayouts.c0 k p l l (l.length : Int) ((i : Int) + 1)) (fun a b => a = b ∧ (a.1 = 0 → ∀ x ∈ l.drop i, LOk p x)) := by
         refine Twin.mono next fun a b ⟨h1, h2⟩ => ⟨h1, fun h x hx => ?_⟩
         rw [hd] at hx
         rcases List.mem_cons.1 hx with rfl | hx
         ·exact ok
         ·exact h2 h x hx
        have key : Twin (fun k => if 0 < (i : Int) then (if (0 : Int) ≤ IntKind.wrap .i64 ((i : Int) - 1) ∧ IntKind.wrap .i64 ((i : Int) - 1) < (l.length : Int) then (if lessS (l.getD (IntKind.wrap .i64 ((i : Int) - 1)).toNat (Ty.dflt YLayout)).1 l[i].1 = false then some (8, ()) else telemetry_CheckLayouts.c0 k p l l (l.length : Int) ((i : Int) + 1)) else none) else telemetry_CheckLayouts.c0 k p l l (l.length : Int) ((i : Int) + 1))
         (fun k => if 0 < (i : Int) then (if (0 : Int) ≤ IntKind.wrap .i64 ((i : Int) - 1) ∧ IntKind.wrap .i64 ((i : Int) - 1) < (l.length : Int) then (if lessS (l.getD (IntKind.wrap .i64 ((i : Int) - 1)).toNat (Ty.dflt YLayout)).1 l[i].1 = false then some (8, ()) else perigeeref7_CheckLayouts.c0 k p l l (l.length : Int) (IntKind.wrap .i64 ((i : Int) + 1))) else none) else perigeeref7_CheckLayouts.c0 k p l l (l.length : Int) (IntKind.wrap .i64 ((i : Int) + 1)))
         (fun a b => a = b ∧ (a.1 = 0 → ∀ x ∈ l.drop i, LOk p x)) := by
         rw [w64 (x := (i : Int) + 1) (by omega) (by omega), w64 (x := (i : Int) - 1) (by omega) (by omega)]
         refine Twin.ifL (fun h6 => Twin.yesR h6 (Twin.yesL (by omega) (Twin.yesR (by omega) ?_))) (fun h6 => Twin.noR h6 fin)
         exact Twin.ifL (fun h7 => Twin.yesR h7 (Twin.now ⟨rfl, fun h => absurd h (by decide)⟩)) (fun h7 => Twin.noR h7 fin)
        obtain ⟨a, b, k1, k2, k3⟩ := key
        exact ⟨a, b, k1, refParts_loop p hp hf l i l[i].1 l[i].2 (by omega) l l.length i l[i].2.length 0 (by omega) b (fun _ => k2) (fun h => absurd (by simpa using g3) h), k3⟩
       ·refine Twin.yesL g3 ⟨_, (ckParts p l[i].2 [], ()), Ev.now _, ?_, rfl, fun h => absurd h g3⟩
        exact refParts_loop p hp hf l i l[i].1 l[i].2 (by omega) l l.length i l[i].2.length 0 (by omega) _ (fun h => absurd (by simpa using h) g3) (fun _ => by simp)
   exact Twin.mono (loop l.length 0 (by omega)) fun a b ⟨h3, h4⟩ => ⟨h3, fun h => ⟨⟨hp, hf⟩, by omega, h4 h⟩⟩
  ·exact Twin.yesL hc (Twin.yesR hc (Twin.now ⟨rfl, fun h => absurd h hc⟩))
 obtain ⟨a, b, h1, h2, rfl, h3⟩ := this
 exact ⟨a.1, h1, h2, h3⟩
end Go.Proofs.Ytcefbdknoelacaa.Pure

-- YtcefbdknoelacaaQ5
set_option linter.unusedVariables false
set_option linter.unusedSimpArgs false
namespace Go.Proofs.Ytcefbdknoelacaa.Pure
open Go Go.Proofs.Ytcefbdknoelacaa.A

def prm (p : List DParameter) (s : List UInt8) : DParameter := (fnd (findP p s)).1
def ps (p : List DParameter) (x : DLayout) : List DParameter := x.2.map (prm p)
theorem prm_ok {p : List DParameter} {s : List UInt8} (h : ∃ y, findP p s = some y) : findP p s = some (prm p s) ∧ prm p s ∈ p ∧ (prm p s).1 = s := by
 obtain ⟨y, hy⟩ := h
 have e : prm p s = y := by unfold prm; rw [hy]; rfl
 rw [e]
 exact ⟨hy, findP_some hy⟩
theorem prm_ev {p : List DParameter} (hp : p.length ≤ 500) (hf : Fits p 0) {s : List UInt8} (h : ∃ y, findP p s = some y) : Ev (fun k => telemetry_parameter.f k p s) (prm p s, true, ()) := by
 have := parameter_ev p hp hf s
 rw [(prm_ok h).1] at this
 exact this
structure AllOk (p : List DParameter) (l : List DLayout) : Prop where
 hp : p.length ≤ 500
 hf : Fits p 0
 hl : l.length ≤ 100
 ok : ∀ x ∈ l, LOk p x
theorem AllOk.bits {p : List DParameter} {l : List DLayout} (h : AllOk p l) {s : List UInt8} (hs : ∃ y, findP p s = some y) : 1 ≤ (prm p s).2.1 ∧ (prm p s).2.1 ≤ 24 := (mem_fit h.hf (prm_ok hs).2.1).1
theorem layoutsOk (p : List DParameter) (l : List DLayout) (h : okT (.sl YParameter) p) (h2 : okT (.sl YLayout) l) : ∃ c, Ev (fun k => telemetry_CheckLayouts.f k p l) (c, ()) ∧ Ev (fun k => perigeeref7_CheckLayouts.f k p l) (c, ()) ∧ (c = 0 → AllOk p l) := by
 obtain ⟨c, h1, h2, h3⟩ := layouts_ev p l h h2
 exact ⟨c, h1, h2, fun h => ⟨(h3 h).1.1, (h3 h).1.2, (h3 h).2.1, (h3 h).2.2⟩⟩
theorem fndL_ok (o : Option DLayout) : ((fndL o).2.1 = false) = (o = none) := by cases o <;> simp [fndL]
theorem found_ev (p : List DParameter) (l : List DLayout) (c : Int) (h : Ev (fun k => telemetry_CheckLayouts.f k p l) (c, ())) (hl : l.length ≤ 4611686018427387904) (t : List UInt8) :
 Ev (fun k => telemetry_found.f k p l t) (if c = 0 then (match findL l t with | some x => (x, 0, ()) | none => (([], []), 9, ())) else (([], []), c, ())) := by
 refine Ev.eq (fun k => by rw [telemetry_found.f_eq]) (Ev.bind h ?_)
 simp only [Bool.not_eq_true', decide_eq_false_iff_not]
 by_cases hc : c = 0
 ·refine Ev.no (fun h => h hc) (Ev.bind (layout_ev l hl t) ?_)
  rw [if_pos hc]
  simp only [fndL_ok]
  cases e : findL l t with
  | none => exact Ev.yes rfl (Ev.now _)
  | some x => exact Ev.no (by simp) (Ev.now _)
 ·rw [if_neg hc]
  exact Ev.yes hc (Ev.now _)
def bsum : List DParameter → Int
 | [] => 0
 | y :: ys => y.2.1 + bsum ys
def POk (L : List DParameter) : Prop := L.length ≤ 200 ∧ ∀ y ∈ L, Fit y
theorem AllOk.ps {p : List DParameter} {l : List DLayout} (h : AllOk p l) {x : DLayout} (hx : x ∈ l) : POk (ps p x) := by
 have k := h.ok x hx
 refine ⟨by simp [Pure.ps]; exact k.2.1, fun y hy => ?_⟩
 obtain ⟨s, hs, rfl⟩ := List.mem_map.1 hy
 exact mem_fit h.hf (prm_ok (k.2.2 s hs)).2.1
def chk : List DParameter → List DReading → Int
 | [], [] => 0
 | y :: ys, v :: vs => if v.1 = y.1 then (if lo y ≤ v.2 ∧ v.2 ≤ hi y then chk ys vs else 1) else 3
 | _, _ => 3
theorem chk_nil (vs : List DReading) : chk [] vs = if vs = [] then 0 else 3 := by cases vs <;> simp [chk]
theorem chk_nil2 (ys : List DParameter) : chk ys [] = if ys = [] then 0 else 3 := by cases ys <;> simp [chk]
theorem readT_ev (p : List DParameter) (hp : p.length ≤ 500) (hf : Fits p 0) (x : DLayout) (hx : LOk p x) (vs : List DReading) (hv : vs.length ≤ 4611686018427387904) : Ev (fun k => telemetry_checkReadings.f k p x vs) (chk (ps p x) vs, ()) := by
 refine Ev.eq (fun k => by rw [telemetry_checkReadings.f_eq]) ?_
 have h2 := hx.2.1
 have := Ev.rng (σ := Unit) (Ty.dflt YReading) vs hv (g := fun k s i => telemetry_checkReadings.c0 k p vs x.1 x.2 vs (vs.length : Int) i) (fun k s i => telemetry_checkReadings.c0_eq _ _ _ _ _ _ _ _)
  (fun i s => i ≤ x.2.length) (fun r i s => (chk ((ps p x).drop i) r, ())) (fun s hs => by
   simp only [decide_eq_true_eq]
   refine Ev.split (fun h => ?_) (fun h => ?_)
   ·refine Ev.is ?_
    rw [chk_nil2, if_neg]
    intro e
    have := congrArg List.length e
    simp [ps] at this
    omega
   ·refine Ev.is ?_
    rw [chk_nil2, if_pos]
    apply List.eq_nil_of_length_eq_zero
    simp [ps]
    omega) (fun i v rest s hi hy _ hget hw hs next => by
   simp only [Int.toNat_natCast, hget, hw, decide_eq_true_eq, Bool.not_eq_true', decide_eq_false_iff_not]
   refine Ev.split (fun h => ?_) (fun h => ?_)
   ·refine Ev.is ?_
    rw [List.drop_of_length_le (by simp [ps]; omega), chk_nil]
    simp
   ·have hi2 : i < x.2.length := by omega
    have hd : (ps p x).drop i = prm p x.2[i] :: (ps p x).drop (i + 1) := by
     rw [List.drop_eq_getElem_cons (show i < (ps p x).length by simp [ps]; omega)]
     simp [ps]
    have hk : ∃ y, findP p x.2[i] = some y := hx.2.2 _ (List.getElem_mem _)
    have nm := (prm_ok hk).2.2
    refine Ev.yes (by omega) ?_
    rw [hd, chk, getD_nat [] x.2 i hi2]
    refine Ev.split (fun h => ?_) (fun h => ?_)
    ·rw [if_neg (by rw [nm]; exact h)]; exact Ev.now _
    ·have h : v.1 = x.2[i] := by simpa using h
     rw [if_pos (by rw [nm]; exact h), h]
     refine Ev.bind (prm_ev hp hf hk) ?_
     have fit := (mem_fit hf (prm_ok hk).2.1).1
     simp only [span_ev _ _ fit, Option.bind_some, in_ev]
     refine Ev.split (fun h => ?_) (fun h => ?_)
     ·rw [if_neg (of_decide_eq_false h)]; exact Ev.now _
     ·rw [if_pos (by simpa using h)]
      exact next () (by omega)) 0 () (by omega) (by omega)
 simpa using this
def ROk : List DParameter → List DReading → Prop
 | [], [] => True
 | y :: ys, v :: vs => v.1 = y.1 ∧ (lo y ≤ v.2 ∧ v.2 ≤ hi y) ∧ ROk ys vs
 | _, _ => False
theorem chk_zero : ∀ (ys : List DParameter) (vs : List DReading), chk ys vs = 0 ↔ ROk ys vs
 | [], [] => by simp [chk, ROk]
 | [], v :: vs => by simp [chk, ROk]
 | y :: ys, [] => by simp [chk, ROk]
 | y :: ys, v :: vs => by
  unfold chk ROk
  by_cases h1 : v.1 = y.1
  ·by_cases h2 : lo y ≤ v.2 ∧ v.2 ≤ hi y
   ·rw [if_pos h1, if_pos h2, chk_zero ys vs]
    exact ⟨fun h => ⟨h1, h2, h⟩, fun h => h.2.2⟩
   ·rw [if_pos h1, if_neg h2]
    exact ⟨fun h => absurd h (by decide), fun h => absurd h.2.1 h2⟩
  ·rw [if_neg h1]
   exact ⟨fun h => absurd h (by decide), fun h => absurd h.1 h1⟩
theorem ROk.len : ∀ {ys : List DParameter} {vs : List DReading}, ROk ys vs → vs.length = ys.length
 | [], [], _ => rfl
 | [], _ :: _, h => h.elim
 | _ :: _, [], h => h.elim
 | _ :: ys, _ :: vs, h => by simp [ROk.len h.2.2]
theorem ROk.drop : ∀ {ys : List DParameter} {vs : List DReading}, ROk ys vs → ∀ i, ROk (ys.drop i) (vs.drop i)
 | _, _, h, 0 => by simpa using h
 | [], [], _, i + 1 => by simp [ROk]
 | [], _ :: _, h, _ + 1 => h.elim
 | _ :: _, [], h, _ + 1 => h.elim
 | _ :: ys, _ :: vs, h, i + 1 => by simpa using ROk.drop h.2.2 i

def nb (y : DParameter) : Nat := y.2.1.toNat
def allBits : List DParameter → List DReading → List Bool
 | y :: ys, v :: vs => nbits v.2 (nb y) ++ allBits ys vs
 | _, _ => []
theorem bit01 (x : Int) : x % 2 = 0 ∨ x % 2 = 1 := by omega
theorem put_ev : ∀ (m : Nat) (b : List Int) (L : List Bool) (n : Int), Pack b L → L.length + m ≤ 1000000 → m ≤ 64 →
 ∃ c, Pack c (L ++ nbits n m) ∧ Ev (fun k => telemetry_row_put.c0 k b (L.length : Int) n ((m : Int) - 1)) ((c, ((L.length + m : Nat) : Int)), ()) := by
 intro m
 induction m with
 | zero =>
  intro b L n hb hl hm
  refine ⟨b, by simpa [nbits] using hb, Ev.step (fun k => by rw [telemetry_row_put.c0_eq]) ?_⟩
  simp only [decide_eq_true_eq]
  exact Ev.no (by omega) (Ev.is (by simp))
 | succ m ih =>
  intro b L n hb hl hm
  have hx : ∃ x : Nat, n / 2 ^ m % 2 = (x : Int) ∧ x ≤ 1 := by
   rcases bit01 (n / 2 ^ m) with h | h
   ·exact ⟨0, by omega, by omega⟩
   ·exact ⟨1, by omega, by omega⟩
  obtain ⟨x, hx, hx1⟩ := hx
  have push := hb.push x hx1
  have blen := hb.len
  obtain ⟨c, c1, c2⟩ := ih _ _ n push (by simp; omega) (by omega)
  have eb : decide (x = 1) = decide (n / 2 ^ m % 2 = 1) := decide_eq_decide.2 (by omega)
  refine ⟨c, ?_, ?_⟩
  ·rw [List.append_assoc, eb] at c1
   exact c1
  ·have inner : Ev (fun k => telemetry_row_put.c1 k (if L.length % 8 = 0 then b ++ [0] else b) (L.length : Int) n (m : Int)) ((c, ((L.length + (m + 1) : Nat) : Int)), ()) := by
    have bl : (if L.length % 8 = 0 then b ++ [0] else b).length = (L.length + 8) / 8 := by
     split
     ·simp only [List.length_append, List.length_cons, List.length_nil]; omega
     ·omega
    have bb : Bytes (if L.length % 8 = 0 then b ++ [0] else b) := by
     split
     ·intro y hy
      rcases List.mem_append.1 hy with hy | hy
      ·exact hb.by_ y hy
      ·simp at hy; omega
     ·exact hb.by_
    generalize (if L.length % 8 = 0 then b ++ [0] else b) = b2 at *
    refine Ev.step (fun k => by rw [telemetry_row_put.c1_eq]) ?_
    have d8 : Int.tdiv (L.length : Int) 8 = ((L.length / 8 : Nat) : Int) := by rw [Int.tdiv_eq_ediv_of_nonneg (by omega)]; omega
    have m8 : Int.tmod (L.length : Int) 8 = ((L.length % 8 : Nat) : Int) := by rw [Int.tmod_eq_emod_of_nonneg (by omega)]; omega
    have s7 : (7 : Int) - ((L.length % 8 : Nat) : Int) = ((7 - L.length % 8 : Nat) : Int) := by omega
    have bat := bb.at (L.length / 8)
    obtain ⟨old, ho, ho2⟩ : ∃ old : Nat, b2.getD (L.length / 8) 0 = (old : Int) ∧ old < 256 := ⟨(b2.getD (L.length / 8) 0).toNat, by omega, by omega⟩
    rw [d8, m8, w64 (x := ((L.length / 8 : Nat) : Int)) (by omega) (by omega), s7, w64 (x := ((7 - L.length % 8 : Nat) : Int)) (by omega) (by omega)]
    simp only [Int.toNat_natCast]
    rw [shr64 n m (by omega), and_bit, hx, wrap_u8 (by omega) (by omega), shl8 x _ hx1 (by omega), ho]
    have sh : x <<< (7 - L.length % 8) < 256 := by
     rw [Nat.shiftLeft_eq]
     have : 2 ^ (7 - L.length % 8) ≤ 2 ^ 7 := Nat.pow_le_pow_right (by omega) (by omega)
     have : x * 2 ^ (7 - L.length % 8) ≤ 1 * 2 ^ (7 - L.length % 8) := Nat.mul_le_mul_right _ hx1
     omega
    rw [or8 old _ ho2 sh, w64 (x := (L.length : Int) + 1) (by omega) (by omega), w64 (x := (m : Int) - 1) (by omega) (by omega)]
    refine Ev.yes (by omega) (Ev.yes (by omega) (Ev.yes (by omega) (Ev.yes (by omega) ?_)))
    have e1 : putAt b2 L.length x = b2.set (L.length / 8) ((old ||| x <<< (7 - L.length % 8) : Nat) : Int) := by
     unfold putAt
     rw [ho, Int.toNat_natCast]
    rw [e1] at c2
    simp only [List.length_append, List.length_cons, List.length_nil] at c2
    rw [show ((L.length + 1 + m : Nat) : Int) = ((L.length + (m + 1) : Nat) : Int) by omega, show ((L.length + (0 + 1) : Nat) : Int) = (L.length : Int) + 1 by omega] at c2
    exact c2
   refine Ev.step (fun k => by rw [telemetry_row_put.c0_eq]) ?_
   rw [show (((m + 1 : Nat) : Int) - 1) = (m : Int) by omega]
   simp only [decide_eq_true_eq]
   have m8 : Int.tmod (L.length : Int) 8 = ((L.length % 8 : Nat) : Int) := by rw [Int.tmod_eq_emod_of_nonneg (by omega)]; omega
   rw [m8]
   refine Ev.yes (by omega) (Ev.split (fun h => ?_) (fun h => ?_))
   ·rw [if_pos (by omega)] at inner
    exact Ev.yes (by omega) inner
   ·rw [if_neg (by omega)] at inner
    exact inner
theorem putf_ev (b : List Int) (L : List Bool) (n : Int) (m : Nat) (h : Pack b L) (hl : L.length + m ≤ 1000000) (hm : m ≤ 64) :
 ∃ c, Pack c (L ++ nbits n m) ∧ Ev (fun k => telemetry_row_put.f k (b, (L.length : Int)) n (m : Int)) ((c, ((L.length + m : Nat) : Int)), ()) := by
 obtain ⟨c, c1, c2⟩ := put_ev m b L n h hl hm
 refine ⟨c, c1, Ev.eq (fun k => by rw [telemetry_row_put.f_eq]) ?_⟩
 rw [w64 (x := (m : Int) - 1) (by omega) (by omega)]
 exact c2
end Go.Proofs.Ytcefbdknoelacaa.Pure

-- YtcefbdknoelacaaQ6
set_option linter.unusedVariables false
set_option linter.unusedSimpArgs false
namespace Go.Proofs.Ytcefbdknoelacaa.Pure
open Go Go.Proofs.Ytcefbdknoelacaa.A

def FillRes (c : Int) (p : List DParameter) (o : Option DLayout) (vs : List DReading) (r : List Int × Int × Unit) : Prop :=
 if c ≠ 0 then r = ([], c, ()) else match o with
  | none => r = ([], 9, ())
  | some x => if chk (ps p x) vs ≠ 0 then r = ([], chk (ps p x) vs, ()) else Pack r.1 (allBits (ps p x) vs) ∧ r.2.1 = 0
theorem FillRes.unique {c : Int} {p : List DParameter} {o : Option DLayout} {vs : List DReading} {r s : List Int × Int × Unit} (h : FillRes c p o vs r) (h' : FillRes c p o vs s) : r = s := by
 unfold FillRes at h h'
 by_cases hc : c ≠ 0
 ·rw [if_pos hc] at h h'; rw [h, h']
 ·rw [if_neg hc] at h h'
  cases o with
  | none => rw [h, h']
  | some x =>
   simp only at h h'
   by_cases hk : chk (ps p x) vs ≠ 0
   ·rw [if_pos hk] at h h'; rw [h, h']
   ·rw [if_neg hk] at h h'
    exact Prod.ext (h.1.unique h'.1) (Prod.ext (h.2.trans h'.2.symm) rfl)
theorem FillRes.c {c : Int} {p : List DParameter} {o : Option DLayout} {vs : List DReading} (h : ¬ c = 0) : FillRes c p o vs ([], c, ()) := by unfold FillRes; rw [if_pos h]
theorem FillRes.none {c : Int} {p : List DParameter} {vs : List DReading} (h : c = 0) : FillRes c p none vs ([], 9, ()) := by unfold FillRes; rw [if_neg (by omega)]
theorem FillRes.bad {c : Int} {p : List DParameter} {x : DLayout} {vs : List DReading} (h : c = 0) (hk : ¬ chk (ps p x) vs = 0) : FillRes c p (some x) vs ([], chk (ps p x) vs, ()) := by
 unfold FillRes; rw [if_neg (by omega)]; simp only; rw [if_pos hk]; trivial
theorem FillRes.good {c : Int} {p : List DParameter} {x : DLayout} {vs : List DReading} {r : List Int × Int × Unit} (h : c = 0) (hk : chk (ps p x) vs = 0) (g : Pack r.1 (allBits (ps p x) vs) ∧ r.2.1 = 0) : FillRes c p (some x) vs r := by
 unfold FillRes; rw [if_neg (by omega)]; simp only; rw [if_neg (by omega)]; exact g
theorem fillT_ev (p : List DParameter) (l : List DLayout) (c : Int) (h : Ev (fun k => telemetry_CheckLayouts.f k p l) (c, ())) (ok : c = 0 → AllOk p l) (hl : l.length ≤ 4611686018427387904) (t : List UInt8) (vs : List DReading) (hv : vs.length ≤ 4611686018427387904) :
 ∃ r, Ev (fun k => telemetry_Filled.f k p l t vs) r ∧ FillRes c p (findL l t) vs r := by
 have fo := found_ev p l c h hl t
 have e0 := fun k => telemetry_Filled.f_eq k p l t vs
 by_cases hc : c = 0
 ·rw [if_pos hc] at fo
  have a := ok hc
  cases e : findL l t with
  | none =>
   rw [e] at fo
   refine ⟨([], 9, ()), Ev.eq e0 (Ev.bind fo (Ev.yes (by simp) (Ev.now _))), FillRes.none hc⟩
  | some x =>
   rw [e] at fo
   obtain ⟨hx, _⟩ := findL_some e
   have lok := a.ok x hx
   have rd := readT_ev p a.hp a.hf x lok vs hv
   by_cases hk : chk (ps p x) vs = 0
   ·have rok := (chk_zero _ _).1 hk
    have pok := a.ps hx
    have len := rok.len
    have key : ∀ (d i : Nat) (b : List Int) (L : List Bool), i + d = vs.length → Pack b L → L.length + 24 * d ≤ 1000000 → L.length ≤ 24 * i →
     ∃ r, Ev (fun k => telemetry_Filled.c0 k p b (L.length : Int) vs (vs.length : Int) i) r ∧ (Pack r.1 (L ++ allBits ((ps p x).drop i) (vs.drop i)) ∧ r.2.1 = 0) := by
     intro d
     induction d with
     | zero =>
      intro i b L hi hb h1 h2
      refine ⟨(b, 0, ()), Ev.step (fun k => by rw [telemetry_Filled.c0_eq]) (Ev.no (by simp; omega) (Ev.now _)), ?_, rfl⟩
      rw [List.drop_of_length_le (by omega), List.drop_of_length_le (by omega)]
      simpa [allBits] using hb
     | succ d ih =>
      intro i b L hi hb h1 h2
      have hi2 : i < vs.length := by omega
      have hi3 : i < (ps p x).length := by omega
      have hi4 : i < x.2.length := by simpa [ps] using hi3
      have d1 := List.drop_eq_getElem_cons hi2
      have d2 := List.drop_eq_getElem_cons hi3
      have ro := rok.drop i
      rw [d1, d2] at ro
      have nm := ro.1
      have epx : (ps p x)[i] = prm p x.2[i] := by simp [ps]
      have hk2 := lok.2.2 _ (List.getElem_mem hi4)
      have pr : prm p vs[i].1 = (ps p x)[i] := by rw [nm, epx, (prm_ok hk2).2.2]
      have hk3 : ∃ y, findP p vs[i].1 = some y := by rw [nm, epx, (prm_ok hk2).2.2]; exact hk2
      have fit := (pok.2 _ (List.getElem_mem hi3)).1
      obtain ⟨m, hm⟩ : ∃ m : Nat, m = nb (ps p x)[i] := ⟨_, rfl⟩
      have hmb : ((ps p x)[i].2.1 : Int) = (m : Int) := by rw [hm]; simp [nb]; omega
      obtain ⟨b2, p1, p2⟩ := putf_ev b L vs[i].2 m hb (by omega) (by omega)
      have len2 : (L ++ nbits vs[i].2 m).length = L.length + m := by rw [List.length_append, nbits_length]
      obtain ⟨r, r1, r2⟩ := ih (i + 1) b2 _ (by omega) p1 (by omega) (by omega)
      refine ⟨r, ?_, ?_⟩
      ·refine Ev.step (fun k => by rw [telemetry_Filled.c0_eq]) ?_
       simp only [decide_eq_true_eq, Int.toNat_natCast, getD_nat (Ty.dflt YReading) vs i hi2]
       refine Ev.yes (by omega) (Ev.yes (by omega) (Ev.bind (prm_ev a.hp a.hf hk3) ?_))
       simp only
       rw [pr, hmb]
       refine Ev.bind p2 ?_
       rw [w64 (x := (i : Int) + 1) (by omega) (by omega)]
       rw [len2] at r1
       exact r1
      ·rw [d1, d2, allBits, ← hm, ← List.append_assoc]
       exact r2
    have len3 : vs.length ≤ 200 := by rw [len]; exact pok.1
    obtain ⟨r, r1, r2⟩ := key vs.length 0 [] [] (by omega) Pack.nil (by simp; omega) (by simp)
    rw [hk] at rd
    refine ⟨r, Ev.eq e0 (Ev.bind fo (Ev.no (by simp) (Ev.bind rd (Ev.no (by simp) r1)))), FillRes.good hc hk (by simpa using r2)⟩
   ·exact ⟨_, Ev.eq e0 (Ev.bind fo (Ev.no (by simp) (Ev.bind rd (Ev.yes (by simpa using hk) (Ev.now _))))), FillRes.bad hc hk⟩
 ·rw [if_neg hc] at fo
  exact ⟨_, Ev.eq e0 (Ev.bind fo (Ev.yes (by simpa using hc) (Ev.now _))), FillRes.c hc⟩
def seg (b : List Int) : Nat → Nat → List Bool
 | _, 0 => []
 | i, n + 1 => bitAt b i :: seg b (i + 1) n
theorem seg_length (b : List Int) : ∀ (n i : Nat), (seg b i n).length = n
 | 0, _ => rfl
 | n + 1, i => by simp [seg, seg_length b n]
theorem seg_append (b : List Int) : ∀ (n m i : Nat), seg b i (n + m) = seg b i n ++ seg b (i + n) m
 | 0, m, i => by simp [seg]
 | n + 1, m, i => by rw [show n + 1 + m = (n + m) + 1 by omega, seg, seg, seg_append b n m (i + 1), show i + 1 + n = i + (n + 1) by omega]; rfl
def rawv (y : DParameter) (n : Int) : Int := if y.2.2.1 = true ∧ 2 ^ (nb y - 1) ≤ n then n - 2 ^ nb y else n
def vals : List DParameter → List Int → Nat → List DReading
 | [], _, _ => []
 | y :: ys, b, i => (y.1, rawv y (num 0 (seg b i (nb y)))) :: vals ys b (i + nb y)
def Zeros (b : List Int) (i : Nat) : Prop := ∀ j, i ≤ j → bitAt b j = false
def bsz (L : List DParameter) : Nat := (bsum L).toNat
open Classical in
def EmpRes (c : Int) (p : List DParameter) (o : Option DLayout) (b : List Int) (r : List DReading × Int × Unit) : Prop :=
 if c ≠ 0 then r = ([], c, ()) else match o with
  | none => r = ([], 9, ())
  | some x => if b.length = (bsz (ps p x) + 7) / 8 ∧ Zeros b (bsz (ps p x)) then r = (vals (ps p x) b 0, 0, ()) else r = ([], 3, ())
theorem EmpRes.unique {c : Int} {p : List DParameter} {o : Option DLayout} {b : List Int} {r s : List DReading × Int × Unit} (h : EmpRes c p o b r) (h' : EmpRes c p o b s) : r = s := by
 unfold EmpRes at h h'
 by_cases hc : c ≠ 0
 ·rw [if_pos hc] at h h'; rw [h, h']
 ·rw [if_neg hc] at h h'
  cases o with
  | none => rw [h, h']
  | some x =>
   simp only at h h'
   by_cases hk : b.length = (bsz (ps p x) + 7) / 8 ∧ Zeros b (bsz (ps p x))
   ·rw [if_pos hk] at h h'; rw [h, h']
   ·rw [if_neg hk] at h h'; rw [h, h']
theorem EmpRes.c {c : Int} {p : List DParameter} {o : Option DLayout} {b : List Int} (h : ¬ c = 0) : EmpRes c p o b ([], c, ()) := by unfold EmpRes; rw [if_pos h]
theorem EmpRes.none {c : Int} {p : List DParameter} {b : List Int} (h : c = 0) : EmpRes c p none b ([], 9, ()) := by unfold EmpRes; rw [if_neg (by omega)]
theorem EmpRes.bad {c : Int} {p : List DParameter} {x : DLayout} {b : List Int} (h : c = 0) (hk : ¬ (b.length = (bsz (ps p x) + 7) / 8 ∧ Zeros b (bsz (ps p x)))) : EmpRes c p (some x) b ([], 3, ()) := by
 unfold EmpRes; rw [if_neg (by omega)]; simp only; rw [if_neg hk]; trivial
theorem EmpRes.good {c : Int} {p : List DParameter} {x : DLayout} {b : List Int} (h : c = 0) (hk : b.length = (bsz (ps p x) + 7) / 8 ∧ Zeros b (bsz (ps p x))) : EmpRes c p (some x) b (vals (ps p x) b 0, 0, ()) := by
 unfold EmpRes; rw [if_neg (by omega)]; simp only; rw [if_pos hk]; trivial
end Go.Proofs.Ytcefbdknoelacaa.Pure

-- YtcefbdknoelacaaQ7
set_option linter.unusedVariables false
set_option linter.unusedSimpArgs false
namespace Go.Proofs.Ytcefbdknoelacaa.Pure
open Go Go.Proofs.Ytcefbdknoelacaa.A

theorem pack_seg {b : List Int} (hb : Bytes b) {n : Nat} (hl : b.length = (n + 7) / 8) (hz : Zeros b n) : Pack b (seg b 0 n) := by
 refine ⟨hb, by rw [seg_length]; exact hl, fun i => ?_⟩
 rcases Nat.lt_or_ge i n with h | h
 ·have := seg_append b i (n - i) 0
  rw [show i + (n - i) = n by omega] at this
  rw [List.getD_eq_getElem?_getD, this, List.getElem?_append_right (by rw [seg_length]; omega), seg_length, Nat.sub_self]
  obtain ⟨m, hm⟩ : ∃ m, n - i = m + 1 := ⟨n - i - 1, by omega⟩
  rw [hm, seg]
  simp
 ·rw [hz i h, List.getD_eq_getElem?_getD, List.getElem?_eq_none (by rw [seg_length]; exact h)]; rfl
theorem EmpRes.nil {p : List DParameter} {o : Option DLayout} {c : Int} {b : List Int} {r : List DReading × Int × Unit} (h : EmpRes c p o b r) (hr : ¬ r.2.1 = 0) : r.1 = [] := by
 unfold EmpRes at h
 by_cases hc : c = 0
 ·rw [if_neg (by omega)] at h
  cases o with
  | none => simp only at h; rw [h]
  | some x =>
   simp only at h
   by_cases hk : b.length = (bsz (ps p x) + 7) / 8 ∧ Zeros b (bsz (ps p x))
   ·rw [if_pos hk] at h; rw [h] at hr; exact absurd rfl hr
   ·rw [if_neg hk] at h; rw [h]
 ·rw [if_pos hc] at h
  rw [h]
end Go.Proofs.Ytcefbdknoelacaa.Pure

-- YtcefbdknoelacaaQ3
set_option linter.unusedVariables false
set_option linter.unusedSimpArgs false
namespace Go.Proofs.Ytcefbdknoelacaa.Pure
open Go Go.Proofs.Ytcefbdknoelacaa.A

theorem tmod_lt (a b : Int) (h : b ≠ 0) : (Int.tmod a b).natAbs < b.natAbs := by
 rw [Int.natAbs_tmod]
 exact Nat.mod_lt _ (by omega)
theorem tdiv_bd (a b : Int) : (Int.tdiv a b).natAbs ≤ a.natAbs := by
 rw [Int.natAbs_tdiv]
 exact Nat.div_le_self _ _
abbrev R (p : DParameter) (j : Nat) : Int := (p.2.2.2.1.getD j (Ty.dflt YShare)).1
abbrev V (p : DParameter) (j : Nat) : Int := (p.2.2.2.1.getD j (Ty.dflt YShare)).2
def den (p : DParameter) (j : Nat) : Int := R p (j + 1) - R p j
theorem V_bd {p : DParameter} (h : Fit p) (j : Nat) (hj : j < p.2.2.2.1.length) : -1000000000 ≤ V p j ∧ V p j ≤ 1000000000 := (h.2.1 j (by omega) hj).2.1
abbrev PV (P : List DShare) (j : Nat) : Int := (P.getD j (Ty.dflt YShare)).2
def Dir (P : List DShare) (s : Int) : Prop := (s = 1 ∨ s = -1) ∧ 2 ≤ P.length ∧ ∀ j : Nat, j + 1 < P.length → s * PV P j < s * PV P (j + 1)
theorem floor_tdiv (a b : Int) (hb : 0 < b) : (Int.tmod a b < 0 → Int.tdiv a b - 1 = a / b) ∧ (¬ Int.tmod a b < 0 → Int.tdiv a b = a / b) := by
 have h1 := Int.tmod_add_mul_tdiv a b
 have h2 : (Int.tmod a b).natAbs < b.natAbs := tmod_lt a b (by omega)
 constructor
 ·intro h
  have e : Int.tmod a b + b + b * (Int.tdiv a b - 1) = a := by rw [Int.mul_sub]; omega
  exact ((Int.ediv_emod_unique (r := Int.tmod a b + b) hb).2 ⟨e, by omega, by omega⟩).1.symm
 ·intro h
  exact ((Int.ediv_emod_unique hb).2 ⟨h1, by omega, by omega⟩).1.symm
theorem down_ev (k : Nat) (a b : Int) (hb : 0 < b) (ha : a.natAbs ≤ 9223372036854775800) : kit_Down.f k a b = some (a / b, ()) := by
 have h1 := floor_tdiv a b hb
 have h2 := tdiv_bd a b
 rw [kit_Down.f_eq, if_pos (by omega), if_pos (by omega), w64 (x := Int.tdiv a b) (by omega) (by omega), w64 (x := Int.tdiv a b - 1) (by omega) (by omega)]
 simp only [decide_eq_true_eq]
 by_cases h : Int.tmod a b < 0
 ·rw [if_pos h, h1.1 h]
 ·rw [if_neg h, h1.2 h]
theorem ediv_bd (a b : Int) (hb : 0 < b) : (a / b).natAbs ≤ a.natAbs := by
 have h1 := floor_tdiv a b hb
 have h2 := tdiv_bd a b
 have h4 := Int.tmod_add_mul_tdiv a b
 by_cases h : Int.tmod a b < 0
 ·have h3 := h1.1 h
  have h5 := Int.mul_ediv_add_emod a b
  have h6 := Int.emod_nonneg a (show b ≠ 0 by omega)
  have h7 : a < 0 := by
   rcases Int.lt_or_le a 0 with h | h8
   ·exact h
   ·have := Int.tmod_nonneg b h8
    omega
  have h8 : -1 * -a ≤ a / b := by
   have : a / 1 ≤ a / b ∨ True := .inr trivial
   have e : a ≤ b * (a / b) + (b - 1) := by have := Int.emod_lt_of_pos a hb; omega
   rcases Int.lt_or_le (a / b) a with h9 | h9
   ·have : b * (a / b) ≤ 1 * (a / b) := Int.mul_le_mul_of_nonpos_right (by omega) (by omega)
    have : b * (a / b) ≤ b * (a - 1) := Int.mul_le_mul_of_nonneg_left (by omega) (by omega)
    have : b * (a - 1) ≤ b * (-1) + b * a := by rw [← Int.mul_add]; exact Int.mul_le_mul_of_nonneg_left (by omega) (by omega)
    have : b * a ≤ 1 * a := Int.mul_le_mul_of_nonpos_right (by omega) (by omega)
    omega
   ·omega
  have h9 : a / b ≤ 0 := by
   have : a / b < 0 := Int.ediv_neg_of_neg_of_pos h7 hb
   omega
  omega
 ·rw [← h1.2 h]; omega
theorem up_ev (k : Nat) (a b : Int) (hb : 0 < b) (ha : a.natAbs ≤ 9223372036854775800) : kit_Up.f k a b = some (-((-a) / b), ()) := by
 rw [kit_Up.f_eq]
 have h := ediv_bd (-a) b hb
 rw [w64 (x := 0 - a) (by omega) (by omega), Int.zero_sub, down_ev k (-a) b hb (by omega)]
 simp only [Option.bind_some]
 rw [w64 (by omega) (by omega), Int.zero_sub]
structure Ask (p : DParameter) (s n d : Int) : Prop where
 fit : Fit p
 dir : Dir p.2.2.2.1 s
 d0 : 1 ≤ d
 d1 : d ≤ 100
 n0 : -1000000000 * d ≤ n
 n1 : n ≤ 1000000000 * d
theorem Ask.vd {p : DParameter} {s n d : Int} (h : Ask p s n d) (m : Nat) (hm : m < p.2.2.2.1.length) : -100000000000 ≤ V p m * d ∧ V p m * d ≤ 100000000000 := by
 have v := V_bd h.fit m hm
 have := h.d0
 have := h.d1
 have a := mul_bd (x := V p m) (y := d) (A := 1000000000) (B := 100) (by omega) (by omega) (by omega) (by omega)
 omega
theorem sgn {s : Int} (h : s = 1 ∨ s = -1) (x : Int) : s * x = x ∨ s * x = -x := by
 rcases h with rfl | rfl <;> omega
theorem Ask.cond {p : DParameter} {s n d : Int} (h : Ask p s n d) (m : Nat) (hm : m < p.2.2.2.1.length) : IntKind.wrap .i64 ((IntKind.wrap .i64 (s * ((p.2.2.2.1.getD m (Ty.dflt YShare)).2))) * d) = s * V p m * d ∧ IntKind.wrap .i64 (s * n) = s * n := by
 have v0 := V_bd h.fit m (by omega)
 have w0 := h.vd m (by omega)
 have n0 := h.n0
 have n1 := h.n1
 have d1 := h.d1
 have d0 := h.d0
 have a1 : IntKind.wrap .i64 (s * V p m) = s * V p m := by rcases sgn h.dir.1 (V p m) with e | e <;> exact w64 (by omega) (by omega)
 have a2 : IntKind.wrap .i64 (s * n) = s * n := by rcases sgn h.dir.1 n with e | e <;> exact w64 (by omega) (by omega)
 refine ⟨?_, a2⟩
 rw [a1, Int.mul_assoc]
 rcases sgn h.dir.1 (V p m * d) with e | e <;> exact w64 (by omega) (by omega)
end Go.Proofs.Ytcefbdknoelacaa.Pure

-- YtcefbdknoelacaaPureTopCodesAreTold
set_option linter.unusedVariables false
set_option linter.unusedSimpArgs false
namespace Go.Proofs.Ytcefbdknoelacaa.Pure
open Go Go.Proofs.Ytcefbdknoelacaa.A
theorem turns_at (k : Nat) : perigeetop_turns.f (k + 40) = some (true, ()) := by kernel_rfl
theorem turns_ev : Ev (fun k => perigeetop_turns.f k) (true, ()) := ⟨40, fun n hn => by
 obtain ⟨k, rfl⟩ : ∃ k, n = k + 40 := ⟨n - 40, by omega⟩
 exact turns_at k⟩
def tcP : List DParameter := [([97], (8, (false, ([], [])))), ([98], (8, (false, ([], [])))), ([99], (8, (false, ([], [])))), ([100], (8, (false, ([], [])))), ([101], (8, (false, ([], [])))), ([102], (8, (false, ([], []))))]
def tcN : List (List UInt8) := [[97], [98], [99], [100], [101], [102]]
def tcL : List DLayout := [([116, 105, 109, 101], tcN)]
theorem tcCheck (k : Nat) : telemetry_CheckLayouts.f (k + 100) tcP tcL = some (0, ()) := by kernel_rfl
theorem tcCheck_ev : Ev (fun k => telemetry_CheckLayouts.f k tcP tcL) (0, ()) := ⟨100, fun n hn => by
 obtain ⟨k, rfl⟩ : ∃ k, n = k + 100 := ⟨n - 100, by omega⟩
 exact tcCheck k⟩
theorem tcOk : AllOk tcP tcL := by
 obtain ⟨c, h1, _, h3⟩ := layoutsOk tcP tcL (by simp [okT, tcP]; decide) (by simp [okT, tcL, tcN]; decide)
 have := h1.unique tcCheck_ev
 cases this
 exact h3 rfl
theorem bit_of {x : Int} (h : 0 ≤ x) (k : Nat) : x.toNat.testBit k = decide (x / 2 ^ k % 2 = 1) := by
 obtain ⟨n, rfl⟩ := Int.eq_ofNat_of_zero_le h
 rw [Int.toNat_natCast, Nat.testBit_eq_decide_div_mod_eq]
 congr 1
 have : ((n : Int) / 2 ^ k % 2 = 1) = (((n / 2 ^ k % 2 : Nat) : Int) = 1) := by push_cast; rfl
 rw [this]
 exact propext ⟨fun h => by rw [h]; rfl, fun h => by omega⟩
theorem pack6 {a b c d e f : Int} (h : Bytes [a, b, c, d, e, f]) : Pack [a, b, c, d, e, f] (nbits a 8 ++ (nbits b 8 ++ (nbits c 8 ++ (nbits d 8 ++ (nbits e 8 ++ (nbits f 8 ++ [])))))) := by
 have p := pack_seg h (n := 48) (by simp) (fun j hj => bitAt_out (by simpa using hj))
 have ha := (h a (by simp)).1
 have hb := (h b (by simp)).1
 have hc := (h c (by simp)).1
 have hd := (h d (by simp)).1
 have he := (h e (by simp)).1
 have hf := (h f (by simp)).1
 have : seg [a, b, c, d, e, f] 0 48 = nbits a 8 ++ (nbits b 8 ++ (nbits c 8 ++ (nbits d 8 ++ (nbits e 8 ++ (nbits f 8 ++ []))))) := by
  simp only [seg, bitAt, nbits, List.cons_append, List.nil_append, List.append_nil, ← bit_of ha, ← bit_of hb, ← bit_of hc, ← bit_of hd, ← bit_of he, ← bit_of hf]
  rfl
 rw [this] at p
 exact p
theorem or_low {a b : Int} (ha : 0 ≤ a) (ha2 : a ≤ 36028797018963967) (hb : 0 ≤ b) (hb2 : b < 256) : bitsOp .i64 .or (a * 256) b = a * 256 + b := by
 obtain ⟨n, rfl⟩ := Int.eq_ofNat_of_zero_le ha
 obtain ⟨q, rfl⟩ := Int.eq_ofNat_of_zero_le hb
 have e0 : (BitVec.ofInt 64 ((n : Int) * 256) ||| BitVec.ofInt 64 (q : Int)).toNat = n * 256 + q := by
  have : ((2 ^ 64 : Nat) : Int) = 18446744073709551616 := rfl
  rw [BitVec.toNat_or, BitVec.toNat_ofInt, BitVec.toNat_ofInt, this]
  rw [show ((n : Int) * 256 % 18446744073709551616).toNat = n * 256 by omega, show ((q : Int) % 18446744073709551616).toNat = q by omega]
  have := Nat.shiftLeft_add_eq_or_of_lt (show q < 2 ^ 8 by omega) n
  rw [Nat.shiftLeft_eq] at this
  exact this.symm
 show IntKind.wrap .i64 ((BitVec.ofInt 64 ((n : Int) * 256) ||| BitVec.ofInt 64 (q : Int)).toNat : Nat) = (n : Int) * 256 + (q : Int)
 rw [e0, w64 (by omega) (by omega)]
 omega
theorem shl_low {a : Int} (ha : 0 ≤ a) (ha2 : a ≤ 36028797018963967) : shlI .i64 a 8 = a * 256 := by
 unfold shlI
 rw [show (2 : Int) ^ (min (8 : Int).toNat (IntKind.bits .i64)) = 256 from rfl, w64 (by omega) (by omega)]
theorem u8_mod (x : Int) : IntKind.wrap .u8 x = x % 256 := by
 obtain ⟨n, h1, _, h3⟩ := u8_nat x
 rw [h1, h3]
theorem push8 {s x : Int} (h1 : 0 ≤ s) (h2 : s ≤ 36028797018963967) (h3 : 0 ≤ x) (h4 : x < 256) : bitsOp .i64 .or (shlI .i64 s 8) (IntKind.wrap .i64 x) = s * 256 + x := by
 rw [w64 (by omega) (by omega), shl_low h1 h2, or_low h1 h2 h3 h4]
theorem read_ev (a b c d e f : Int) (h : Bytes [a, b, c, d, e, f]) (t : Int) (t0 : 0 ≤ t) (t1 : t ≤ 1000000000000) (hs : ((a * 256 + b) * 256 + c) * 256 + d = t / 1000) (hr : e * 256 + f = t % 1000 * 65536 / 1000) :
 Ev (fun k => clock_ReadCode.f k [a, b, c, d, e, f]) (t, 0, ()) := by
 have ha := h a (by simp)
 have hb := h b (by simp)
 have hc := h c (by simp)
 have hd := h d (by simp)
 have he := h e (by simp)
 have hf := h f (by simp)
 refine Ev.eq (fun k => by rw [clock_ReadCode.f_eq]) ?_
 refine Ev.no (by simp) (Ev.yes (by simp) (Ev.yes (by simp) (Ev.yes (by simp) ?_)))
 rw [show ([a, b, c, d, e, f] : List Int).getD 4 0 = e from rfl, show ([a, b, c, d, e, f] : List Int).getD 5 0 = f from rfl, w64 (x := e) (by omega) (by omega), show bitsOp .i64 .or (shlI .i64 e 8) (IntKind.wrap .i64 f) = e * 256 + f from push8 (by omega) (by omega) hf.1 hf.2]
 have L : (([a, b, c, d, e, f] : List Int).take 4).drop 0 = [a, b, c, d] := rfl
 rw [L]
 have s4 : Ev (fun k => clock_ReadCode.c0 k (((a * 256 + b) * 256 + c) * 256 + d) (e * 256 + f) [a, b, c, d] (([a, b, c, d] : List Int).length : Int) 4) (t, 0, ()) := by
  refine Ev.step (fun k => by rw [clock_ReadCode.c0_eq]) (Ev.no (by simp) ?_)
  rw [w64 (x := (e * 256 + f) * 1000) (by omega) (by omega)]
  refine Ev.bind (⟨0, fun n _ => up_ev n _ _ (by omega) (by omega)⟩ : Ev (fun n => kit_Up.f n ((e * 256 + f) * 1000) 65536) _) ?_
  have m : -(-((e * 256 + f) * 1000) / 65536) = t % 1000 := by rw [hr]; omega
  simp only [m, decide_eq_true_eq, Bool.not_eq_true', decide_eq_false_iff_not]
  rw [w64 (x := t % 1000 * 65536) (by omega) (by omega), Int.tdiv_eq_ediv_of_nonneg (by omega), w64 (x := t % 1000 * 65536 / 1000) (by omega) (by omega), hs, w64 (x := t / 1000 * 1000) (by omega) (by omega), show t / 1000 * 1000 + t % 1000 = t by omega, w64 (x := t) (by omega) (by omega)]
  exact Ev.no (by omega) (Ev.no (by simp [hr]) (Ev.no (by omega) (Ev.now _)))
 have s3 : Ev (fun k => clock_ReadCode.c0 k ((a * 256 + b) * 256 + c) (e * 256 + f) [a, b, c, d] (([a, b, c, d] : List Int).length : Int) 3) (t, 0, ()) := by
  refine Ev.step (fun k => by rw [clock_ReadCode.c0_eq]) (Ev.yes (by simp) (Ev.yes (by simp) ?_))
  rw [show ([a, b, c, d] : List Int).getD (3 : Int).toNat 0 = d from rfl, push8 (by omega) (by omega) hd.1 hd.2]
  exact s4
 have s2 : Ev (fun k => clock_ReadCode.c0 k (a * 256 + b) (e * 256 + f) [a, b, c, d] (([a, b, c, d] : List Int).length : Int) 2) (t, 0, ()) := by
  refine Ev.step (fun k => by rw [clock_ReadCode.c0_eq]) (Ev.yes (by simp) (Ev.yes (by simp) ?_))
  rw [show ([a, b, c, d] : List Int).getD (2 : Int).toNat 0 = c from rfl, push8 (by omega) (by omega) hc.1 hc.2]
  exact s3
 have s1 : Ev (fun k => clock_ReadCode.c0 k a (e * 256 + f) [a, b, c, d] (([a, b, c, d] : List Int).length : Int) 1) (t, 0, ()) := by
  refine Ev.step (fun k => by rw [clock_ReadCode.c0_eq]) (Ev.yes (by simp) (Ev.yes (by simp) ?_))
  rw [show ([a, b, c, d] : List Int).getD (1 : Int).toNat 0 = b from rfl, push8 (by omega) (by omega) hb.1 hb.2]
  exact s2
 refine Ev.step (fun k => by rw [clock_ReadCode.c0_eq]) (Ev.yes (by simp) (Ev.yes (by simp) ?_))
 rw [show ([a, b, c, d] : List Int).getD (0 : Int).toNat 0 = a from rfl, push8 (s := 0) (x := a) (by omega) (by omega) ha.1 ha.2, show (0 : Int) * 256 + a = a by omega]
 exact s1
theorem loop_ev (t a b c d e f : Int) (h : Bytes [a, b, c, d, e, f]) {r : Bool × Unit} (s6 : Ev (fun k => perigeetop_TopCodesAreTold.c0 k t [a, b, c, d, e, f] [([97], (8, (false, ([], [])))), ([98], (8, (false, ([], [])))), ([99], (8, (false, ([], [])))), ([100], (8, (false, ([], [])))), ([101], (8, (false, ([], [])))), ([102], (8, (false, ([], []))))] [([97], a), ([98], b), ([99], c), ([100], d), ([101], e), ([102], f)] [116, 105, 109, 101] [[97], [98], [99], [100], [101], [102]] tcN 6 6) r) :
 Ev (fun k => perigeetop_TopCodesAreTold.c0 k t [a, b, c, d, e, f] [] [] [116, 105, 109, 101] [] tcN 6 0) r := by
 have ha := h a (by simp)
 have hb := h b (by simp)
 have hc := h c (by simp)
 have hd := h d (by simp)
 have he := h e (by simp)
 have hf := h f (by simp)
 have s5 : Ev (fun k => perigeetop_TopCodesAreTold.c0 k t [a, b, c, d, e, f] [([97], (8, (false, ([], [])))), ([98], (8, (false, ([], [])))), ([99], (8, (false, ([], [])))), ([100], (8, (false, ([], [])))), ([101], (8, (false, ([], []))))] [([97], a), ([98], b), ([99], c), ([100], d), ([101], e)] [116, 105, 109, 101] [[97], [98], [99], [100], [101]] tcN 6 5) r := by
  refine Ev.step (fun k => by rw [perigeetop_TopCodesAreTold.c0_eq]) ?_
  simp only [decide_eq_true_eq]
  rw [show IntKind.wrap .i64 (([a, b, c, d, e, f] : List Int).getD (5 : Int).toNat 0) = f from w64 (x := f) (by omega) (by omega)]
  exact Ev.yes (by decide) (Ev.yes (by decide) (Ev.yes (by decide) (Ev.yes (by decide) (Ev.yes ⟨by decide, by simp⟩ (Ev.yes (by simp) s6)))))
 have s4 : Ev (fun k => perigeetop_TopCodesAreTold.c0 k t [a, b, c, d, e, f] [([97], (8, (false, ([], [])))), ([98], (8, (false, ([], [])))), ([99], (8, (false, ([], [])))), ([100], (8, (false, ([], []))))] [([97], a), ([98], b), ([99], c), ([100], d)] [116, 105, 109, 101] [[97], [98], [99], [100]] tcN 6 4) r := by
  refine Ev.step (fun k => by rw [perigeetop_TopCodesAreTold.c0_eq]) ?_
  simp only [decide_eq_true_eq]
  rw [show IntKind.wrap .i64 (([a, b, c, d, e, f] : List Int).getD (4 : Int).toNat 0) = e from w64 (x := e) (by omega) (by omega)]
  exact Ev.yes (by decide) (Ev.yes (by decide) (Ev.yes (by decide) (Ev.yes (by decide) (Ev.yes ⟨by decide, by simp⟩ (Ev.yes (by simp) s5)))))
 have s3 : Ev (fun k => perigeetop_TopCodesAreTold.c0 k t [a, b, c, d, e, f] [([97], (8, (false, ([], [])))), ([98], (8, (false, ([], [])))), ([99], (8, (false, ([], []))))] [([97], a), ([98], b), ([99], c)] [116, 105, 109, 101] [[97], [98], [99]] tcN 6 3) r := by
  refine Ev.step (fun k => by rw [perigeetop_TopCodesAreTold.c0_eq]) ?_
  simp only [decide_eq_true_eq]
  rw [show IntKind.wrap .i64 (([a, b, c, d, e, f] : List Int).getD (3 : Int).toNat 0) = d from w64 (x := d) (by omega) (by omega)]
  exact Ev.yes (by decide) (Ev.yes (by decide) (Ev.yes (by decide) (Ev.yes (by decide) (Ev.yes ⟨by decide, by simp⟩ (Ev.yes (by simp) s4)))))
 have s2 : Ev (fun k => perigeetop_TopCodesAreTold.c0 k t [a, b, c, d, e, f] [([97], (8, (false, ([], [])))), ([98], (8, (false, ([], []))))] [([97], a), ([98], b)] [116, 105, 109, 101] [[97], [98]] tcN 6 2) r := by
  refine Ev.step (fun k => by rw [perigeetop_TopCodesAreTold.c0_eq]) ?_
  simp only [decide_eq_true_eq]
  rw [show IntKind.wrap .i64 (([a, b, c, d, e, f] : List Int).getD (2 : Int).toNat 0) = c from w64 (x := c) (by omega) (by omega)]
  exact Ev.yes (by decide) (Ev.yes (by decide) (Ev.yes (by decide) (Ev.yes (by decide) (Ev.yes ⟨by decide, by simp⟩ (Ev.yes (by simp) s3)))))
 have s1 : Ev (fun k => perigeetop_TopCodesAreTold.c0 k t [a, b, c, d, e, f] [([97], (8, (false, ([], []))))] [([97], a)] [116, 105, 109, 101] [[97]] tcN 6 1) r := by
  refine Ev.step (fun k => by rw [perigeetop_TopCodesAreTold.c0_eq]) ?_
  simp only [decide_eq_true_eq]
  rw [show IntKind.wrap .i64 (([a, b, c, d, e, f] : List Int).getD (1 : Int).toNat 0) = b from w64 (x := b) (by omega) (by omega)]
  exact Ev.yes (by decide) (Ev.yes (by decide) (Ev.yes (by decide) (Ev.yes (by decide) (Ev.yes ⟨by decide, by simp⟩ (Ev.yes (by simp) s2)))))
 have s0 : Ev (fun k => perigeetop_TopCodesAreTold.c0 k t [a, b, c, d, e, f] [] [] [116, 105, 109, 101] [] tcN 6 0) r := by
  refine Ev.step (fun k => by rw [perigeetop_TopCodesAreTold.c0_eq]) ?_
  simp only [decide_eq_true_eq]
  rw [show IntKind.wrap .i64 (([a, b, c, d, e, f] : List Int).getD (0 : Int).toNat 0) = a from w64 (x := a) (by omega) (by omega)]
  exact Ev.yes (by decide) (Ev.yes (by decide) (Ev.yes (by decide) (Ev.yes (by decide) (Ev.yes ⟨by decide, by simp⟩ (Ev.yes (by simp) s1)))))
 exact s0
theorem TopCodesAreTold (t : Int) (h0 : okT (.int .i64) t) : ∃ n, perigeetop_TopCodesAreTold.f n t = some (true, ()) := by
 refine Ev.rounds (g := fun k => perigeetop_TopCodesAreTold.f k t) ?_
 refine Ev.eq (fun k => by rw [perigeetop_TopCodesAreTold.f_eq]) ?_
 by_cases ht : 0 ≤ t ∧ t ≤ 1000000000000
 ·obtain ⟨t0, t1⟩ := ht
  have e1 : IntKind.wrap .i64 (Int.tdiv t 1000) = t / 1000 := by rw [Int.tdiv_eq_ediv_of_nonneg t0, w64 (by omega) (by omega)]
  have e2 : IntKind.wrap .i64 (Int.tdiv (IntKind.wrap .i64 (Int.tmod t 1000 * 65536)) 1000) = t % 1000 * 65536 / 1000 := by
   rw [Int.tmod_eq_emod_of_nonneg t0, w64 (x := t % 1000 * 65536) (by omega) (by omega), Int.tdiv_eq_ediv_of_nonneg (by omega), w64 (by omega) (by omega)]
  have code : Ev (fun k => clock_Code.f k t) ([t / 1000 / 2 ^ 24 % 256, t / 1000 / 2 ^ 16 % 256, t / 1000 / 2 ^ 8 % 256, t / 1000 % 256, t % 1000 * 65536 / 1000 / 2 ^ 8 % 256, t % 1000 * 65536 / 1000 % 256], 0, ()) := by
   refine Ev.eq (fun k => by rw [clock_Code.f_eq]) ?_
   refine Ev.bind (a := (true, ())) (Ev.eq (fun k => by rw [kit_In.f_eq]) (Ev.yes (by simpa using t0) (Ev.is (by simp [t1])))) ?_
   refine Ev.no (by simp) (Ev.is ?_)
   rw [e1, e2, show shrI .i64 (t / 1000) 24 = _ from shr64 _ 24 (by omega), show shrI .i64 (t / 1000) 16 = _ from shr64 _ 16 (by omega), show shrI .i64 (t / 1000) 8 = _ from shr64 _ 8 (by omega), show shrI .i64 (t % 1000 * 65536 / 1000) 8 = _ from shr64 _ 8 (by omega)]
   simp only [u8_mod]
  refine Ev.bind code ?_
  have hs : ((t / 1000 / 2 ^ 24 % 256 * 256 + t / 1000 / 2 ^ 16 % 256) * 256 + t / 1000 / 2 ^ 8 % 256) * 256 + t / 1000 % 256 = t / 1000 := by omega
  have hr : t % 1000 * 65536 / 1000 / 2 ^ 8 % 256 * 256 + t % 1000 * 65536 / 1000 % 256 = t % 1000 * 65536 / 1000 := by omega
  have hb : Bytes [t / 1000 / 2 ^ 24 % 256, t / 1000 / 2 ^ 16 % 256, t / 1000 / 2 ^ 8 % 256, t / 1000 % 256, t % 1000 * 65536 / 1000 / 2 ^ 8 % 256, t % 1000 * 65536 / 1000 % 256] := by
   intro x hx
   simp only [List.mem_cons, List.not_mem_nil, or_false] at hx
   omega
  generalize t / 1000 / 2 ^ 24 % 256 = a at *
  generalize t / 1000 / 2 ^ 16 % 256 = b at *
  generalize t / 1000 / 2 ^ 8 % 256 = c at *
  generalize t / 1000 % 256 = d at *
  generalize t % 1000 * 65536 / 1000 / 2 ^ 8 % 256 = e at *
  generalize t % 1000 * 65536 / 1000 % 256 = f at *
  refine Ev.no (by simp) (Ev.no (by simp) (loop_ev t a b c d e f hb ?_))
  refine Ev.step (fun k => by rw [perigeetop_TopCodesAreTold.c0_eq]) (Ev.no (by simp) ?_)
  obtain ⟨r, r1, r2⟩ := fillT_ev tcP tcL 0 tcCheck_ev (fun _ => tcOk) (by simp [tcL]) [116, 105, 109, 101] [([97], a), ([98], b), ([99], c), ([100], d), ([101], e), ([102], f)] (by simp)
  have hps : findL tcL [116, 105, 109, 101] = some ([116, 105, 109, 101], tcN) := rfl
  rw [hps] at r2
  have hp : ps tcP ([116, 105, 109, 101], tcN) = tcP := rfl
  have ha := hb a (by simp)
  have hb' := hb b (by simp)
  have hc := hb c (by simp)
  have hd := hb d (by simp)
  have he := hb e (by simp)
  have hf := hb f (by simp)
  have ck : chk (ps tcP ([116, 105, 109, 101], tcN)) [([97], a), ([98], b), ([99], c), ([100], d), ([101], e), ([102], f)] = 0 := by
   rw [hp, chk_zero]
   have l0 : ∀ y ∈ tcP, lo y = 0 ∧ hi y = 255 := by decide
   refine ⟨rfl, ?_, rfl, ?_, rfl, ?_, rfl, ?_, rfl, ?_, rfl, ?_, trivial⟩ <;>
    (rw [(l0 _ (by simp [tcP])).1, (l0 _ (by simp [tcP])).2]; simp only; omega)
  unfold FillRes at r2
  rw [if_neg (by simp)] at r2
  simp only at r2
  rw [if_neg (by rw [ck]; simp), hp] at r2
  obtain ⟨r3, r4⟩ := r2
  have r5 : r.1 = [a, b, c, d, e, f] := r3.unique (pack6 hb)
  refine Ev.bind r1 (Ev.no (by rw [r4]; simp) ?_)
  rw [r5]
  refine Ev.bind (read_ev a b c d e f hb t t0 t1 hs hr) (Ev.yes (by simp) (Ev.yes (by simp) (Ev.bind turns_ev (Ev.now _))))
 ·have code : Ev (fun k => clock_Code.f k t) ([], 1, ()) := by
   refine Ev.eq (fun k => by rw [clock_Code.f_eq]) ?_
   have i1 : Ev (fun k => kit_In.f k t 0 1000000000000) (false, ()) := ?_
   ·refine Ev.bind i1 ?_
    exact Ev.yes (by simp) (Ev.now _)
   refine Ev.eq (fun k => by rw [kit_In.f_eq]) (Ev.split (fun h => Ev.is ?_) (fun _ => Ev.now _))
   have h : 0 ≤ t := by simpa using h
   have : ¬ t ≤ 1000000000000 := fun h2 => ht ⟨h, h2⟩
   simp [this]
  refine Ev.bind code ?_
  exact Ev.yes (by simp) (Ev.yes (by simp) (Ev.bind turns_ev (Ev.now _)))
end Go.Proofs.Ytcefbdknoelacaa.Pure
