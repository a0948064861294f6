/- Loops and Never of the program say what those of the reference say, with all errors. -/
import Derived.Below
import Derived.ChangeArms
import Derived.ChangeSlices
import Derived.DataElems
import Derived.DataReads
import Derived.Ground.Names2Prog
import Derived.Laws.Pointers
import Derived.Laws.Strings
import Derived.Orders
import Derived.Shelf.Slices.Cells
import Derived.Shelf.Slices.In.SortNone
import Derived.Shelf.Slices.ReverseS
import Derived.Shelf.Sort.Plain
import Derived.SizedLaws
import Derived.Sort.EncStr
import Derived.Sort.Grow
import Derived.Still
import Derived.Test.YtadhpgecilhgnaaChecked
import Derived.Test.YtadhpgecilhgnaaProg
import Derived.WideShapes
import Derived.Test.YtadhpgecilhgnaaCWatchesLoopsMatchSpec2
-- YtadhpgecilhgnaaOps18
set_option linter.unusedVariables false
set_option linter.unusedSimpArgs false
namespace Go.Proofs.Ytadhpgecilhgnaa.A
open Go
section
variable {P : Program} {B : Base} {m m1 m2 : Md} {H H1 H2 : Hp} {w w' : World} {o : Oper} {a : Act} {E : Env} {tab : Nat → Option TI} {Z : Nat → Prop}

theorem asO_ok {Z : Nat → Prop} {τ : Ty} {l : LV} {x : τ.den} {c : Value} {F : List Nat} (h : l.as (fun _ => .absent) τ = some x) (hl : OL Z w l c F) (h1 : τ.one = true) : Rep Z w τ x [c] F := by
 cases l with
 | v σ y =>
  simp only [LV.as, castTo] at h
  split at h
  ·rename_i e; cases e; cases h; exact hl
  ·cases h
 | vw e xs =>
  simp only [LV.as, castTo] at h
  split at h
  ·rename_i e; cases e; cases h; exact hl
  ·cases h
 | nils =>
  obtain ⟨rfl, rfl⟩ := (hl : c = .slice none 0 0 ∧ F = [])
  cases τ <;> simp [LV.as] at h
  ·subst h; exact ⟨rfl, by simp, none, 0, rfl, by simp, .inl rfl⟩
  ·subst h; exact ⟨by simp, none, 0, [], [], [], rfl, by simp, rfl, ⟨rfl, rfl⟩, .inl ⟨rfl, rfl, rfl, rfl⟩⟩
  ·exact ⟨rfl, rfl⟩
  ·subst h; exact ⟨fun _ => rfl, rfl, by simp, none, 0, rfl, by simp, .inl rfl⟩
 | row id => cases τ <;> simp [LV.as] at h
 | sub id g off => cases τ <;> simp [LV.as] at h
 | mapr id => cases τ <;> simp [LV.as] at h
 | _ => simp [LV.as] at h
theorem asmO1 {Z : Nat → Prop} {τ : Ty} (h1 : τ.one = true) {ls r : List LV} {x : τ.den} {cs : List Value} {F : List Nat} (h : asm1 (fun _ => .absent) τ ls = some (x, r)) (hl : RepL (OL1 Z w) ls cs F) :
 ∃ c1 c2 F1 F2, cs = c1 ++ c2 ∧ F = F1 ++ F2 ∧ Rep Z w τ x c1 F1 ∧ RepL (OL1 Z w) r c2 F2 := by
 unfold asm1 at h
 split at h
 ·split at h
  ·rename_i y hy
   cases h
   obtain ⟨c1, c2, F1, F2, e1, e2, ⟨c, rfl, hx⟩, hr⟩ := hl
   exact ⟨[c], c2, F1, F2, e1, e2, asO_ok hy hx h1, hr⟩
  ·cases h
 ·cases h
theorem asmO : ∀ {τ : Ty} {Z : Nat → Prop} {ls r : List LV} {x : τ.den} {cs : List Value} {F : List Nat}, asm (fun _ => .absent) τ ls = some (x, r) → RepL (OL1 Z w) ls cs F →
 ∃ c1 c2 F1 F2, cs = c1 ++ c2 ∧ F = F1 ++ F2 ∧ Rep Z w τ x c1 F1 ∧ RepL (OL1 Z w) r c2 F2 := by
 intro τ
 induction τ with
 | unit => intro Z ls r x cs F h hl; cases h; exact ⟨[], cs, [], F, rfl, rfl, ⟨rfl, rfl⟩, hl⟩
 | pair a b iha ihb =>
  intro Z ls r x cs F h hl
  simp only [asm] at h
  split at h
  ·rename_i y ls' h1
   split at h
   ·rename_i z ls'' h2
    cases h
    obtain ⟨c1, c2, F1, F2, e1, e2, g1, g2⟩ := iha h1 hl
    obtain ⟨c3, c4, F3, F4, e3, e4, g3, g4⟩ := ihb h2 g2
    exact ⟨c1 ++ c3, c4, F1 ++ F3, F4, by rw [e1, e3, List.append_assoc], by rw [e2, e4, List.append_assoc], ⟨c1, c3, F1, F3, rfl, rfl, g1, g3⟩, g4⟩
   ·cases h
  ·cases h
 | bool => intro Z ls r x cs F h hl; exact asmO1 rfl h hl
 | int k => intro Z ls r x cs F h hl; exact asmO1 rfl h hl
 | str => intro Z ls r x cs F h hl; exact asmO1 rfl h hl
 | sl e _ => intro Z ls r x cs F h hl; exact asmO1 rfl h hl
 | vec e _ => intro Z ls r x cs F h hl; exact asmO1 rfl h hl
 | map k e _ _ => intro Z ls r x cs F h hl; exact asmO1 rfl h hl
 | fnv f => intro Z ls r x cs F h hl; exact asmO1 rfl h hl
 | nil => intro Z ls r x cs F h hl; exact asmO1 rfl h hl
 | ptr e _ => intro Z ls r x cs F h hl; exact asmO1 rfl h hl
 | fmap k e _ _ => intro Z ls r x cs F h hl; exact asmO1 rfl h hl
 | mapb k e _ _ => intro Z ls r x cs F h hl; exact asmO1 rfl h hl
 | nsl e _ => intro Z ls r x cs F h hl; exact asmO1 rfl h hl
theorem asmAllO {τ : Ty} {Z : Nat → Prop} {ls : List LV} {x : τ.den} {cs : List Value} {F : List Nat} (h : asmAll (fun _ => .absent) τ ls = some x) (hl : RepL (OL1 Z w) ls cs F) : Rep Z w τ x cs F := by
 unfold asmAll at h
 split at h
 ·rename_i y h1
  cases h
  obtain ⟨c1, c2, F1, F2, e1, e2, g1, g2⟩ := asmO h1 hl
  obtain ⟨rfl, rfl⟩ := (g2 : c2 = [] ∧ F2 = [])
  rw [e1, e2, List.append_nil, List.append_nil]; exact g1
 ·cases h

theorem eqV_key {τ : Ty} {d : TypeDesc} (hd : keyDesc τ d) {x y : τ.den} (h : eqV τ x y = true) : x = y := by
 cases τ <;> try exact hd.elim
 all_goals simpa [eqV] using h
theorem eqV_refl {τ : Ty} {d : TypeDesc} (hd : keyDesc τ d) (x : τ.den) : eqV τ x x = true := by
 cases τ <;> try exact hd.elim
 all_goals simp [eqV]
theorem KV.one {τ : Ty} {d : TypeDesc} (hd : keyDesc τ d) {x : τ.den} {v : Value} (h : KV Z w τ x v) : Rep Z w τ x [v] [] := by
 obtain ⟨kc, h1, h2⟩ := h
 rw [VIs, key_one hd] at h1
 simp only [Bool.not_true, Bool.false_eq_true, if_false] at h1
 subst h1; exact h2
theorem KV.mk1 {τ : Ty} {d : TypeDesc} (hd : keyDesc τ d) {x : τ.den} {v : Value} (h : Rep Z w τ x [v] []) : KV Z w τ x v := ⟨[v], by rw [VIs, key_one hd]; rfl, h⟩
theorem findF_ok {τ σ : Ty} {d : TypeDesc} (hd : keyDesc τ d) {T : τ.den → σ.den → Value → List Nat → Prop} {x : τ.den} {kv : Value} (hx : Rep Z w τ x [kv] []) : ∀ {mm : List (τ.den × σ.den)} {es : List MapEntry} {F : List Nat} (i0 : Nat), RepMF T (KV Z w τ) mm es F →
 (Instr.findNow d kv es i0 = some none ∧ mapHas τ σ x mm = false ∧ (∀ z, mapGet τ σ x mm z = z) ∧ ∀ y, mapPut τ σ x y mm = mm ++ [(x, y)]) ∨
 (∃ m1 y0 m2 e1 e e2 F1 G F2, mm = m1 ++ (x, y0) :: m2 ∧ es = e1 ++ e :: e2 ∧ F = F1 ++ (G ++ F2) ∧ (∀ p ∈ m1, eqV τ p.1 x = false) ∧ RepMF T (KV Z w τ) m1 e1 F1 ∧ e.key = kv ∧ T x y0 e.val G ∧ RepMF T (KV Z w τ) m2 e2 F2 ∧
  Instr.findNow d kv es i0 = some (some (i0 + e1.length, e.val)) ∧ mapHas τ σ x mm = true ∧ (∀ z, mapGet τ σ x mm z = y0) ∧ ∀ y, mapPut τ σ x y mm = m1 ++ (x, y) :: m2)
 | [], es, F, i0, ⟨h1, h2⟩ => by
  subst h1
  exact .inl ⟨rfl, rfl, fun _ => rfl, fun _ => rfl⟩
 | p :: mm, es, F, i0, ⟨e, es', F1, F2, h1, h2, h3, h4, h5⟩ => by
  subst h1; subst h2
  obtain ⟨s1, s2⟩ := same_ok hd hx (h3.one hd)
  by_cases he : eqV τ p.1 x = true
  ·have hp := eqV_key hd he
   refine .inr ⟨[], p.2, mm, [], e, es', [], F1, F2, by rw [← hp]; rfl, rfl, rfl, by simp, ⟨rfl, rfl⟩, s2 he, by rw [← hp]; exact h4, h5, by simp [Instr.findNow, s1, he], by simp [mapHas, he], fun z => by simp [mapGet, he], fun y => by simp [mapPut, he]⟩
  ·have he : eqV τ p.1 x = false := by simpa using he
   rcases findF_ok (mm := mm) hd hx (i0 + 1) h5 with ⟨q1, q2, q3, q4⟩ | ⟨m1, y0, m2, e1, e', e2, G1, G, G2, q1, q2, q3, q4, q5, q6, q7, q8, q9, q10, q11, q12⟩
   ·exact .inl ⟨by simp [Instr.findNow, s1, he, q1], by simp only [mapHas, List.any_cons, he, Bool.false_or]; exact q2, fun z => by simp [mapGet, he, q3], fun y => by simp [mapPut, he, q4]⟩
   ·refine .inr ⟨p :: m1, y0, m2, e :: e1, e', e2, F1 ++ G1, G, G2, by rw [q1]; rfl, by rw [q2]; rfl, by rw [q3, List.append_assoc], fun r hr => ?_, ⟨e, e1, F1, G1, rfl, rfl, h3, h4, q5⟩, q6, q7, q8, by simp [Instr.findNow, s1, he, q9]; omega, by simp only [mapHas, List.any_cons, he, Bool.false_or]; exact q10, fun z => by simp [mapGet, he, q11], fun y => by simp [mapPut, he, q12]⟩
    rcases List.mem_cons.1 hr with rfl | hr
    ·exact he
    ·exact q4 r hr

theorem findH_ok {τ σ : Ty} {d : TypeDesc} (hd : keyDesc τ d) {T : τ.den → σ.den → Value → List Nat → Prop} {x : τ.den} {kv : Value} {ov : Option Value} (hx : Rep Z w τ x [kv] []) : ∀ {mm : List (τ.den × σ.den)} {es : List MapEntry} {F : List Nat} (i0 : Nat), RepMH (fun y => eqV τ y x) ov T (KV Z w τ) mm es F →
 (Instr.findNow d kv es i0 = some none ∧ RepMF T (KV Z w τ) mm es F ∧ ∀ y, mapPut τ σ x y mm = mm ++ [(x, y)]) ∨
 (∃ m1 y0 m2 e1 e e2 F1 F2, mm = m1 ++ (x, y0) :: m2 ∧ es = e1 ++ e :: e2 ∧ F = F1 ++ F2 ∧ RepMF T (KV Z w τ) m1 e1 F1 ∧ e.key = kv ∧ RepMF T (KV Z w τ) m2 e2 F2 ∧
  Instr.findNow d kv es i0 = some (some (i0 + e1.length, e.val)) ∧ ∀ y, mapPut τ σ x y mm = m1 ++ (x, y) :: m2)
 | [], es, F, i0, ⟨h1, h2⟩ => by
  subst h1
  exact .inl ⟨rfl, ⟨rfl, h2⟩, fun _ => rfl⟩
 | p :: mm, es, F, i0, h => by
  unfold RepMH at h
  by_cases he : eqV τ p.1 x = true
  ·rw [he] at h
   obtain ⟨e, es', h1, h2, h3, h4⟩ := h
   subst h1
   obtain ⟨s1, s2⟩ := same_ok hd hx (h2.one hd)
   have hp := eqV_key hd he
   exact .inr ⟨[], p.2, mm, [], e, es', [], F, by rw [← hp]; rfl, rfl, rfl, ⟨rfl, rfl⟩, s2 he, h4, by simp [Instr.findNow, s1, he], fun y => by simp [mapPut, he]⟩
  ·have he : eqV τ p.1 x = false := by simpa using he
   rw [he] at h
   obtain ⟨e, es', F1, F2, h1, h2, h3, h4, h5⟩ := h
   subst h1; subst h2
   obtain ⟨s1, s2⟩ := same_ok hd hx (h3.one hd)
   rcases findH_ok (mm := mm) hd hx (i0 + 1) h5 with ⟨q1, q2, q3⟩ | ⟨m1, y0, m2, e1, e', e2, G1, G2, q1, q2, q3, q4, q5, q6, q7, q8⟩
   ·exact .inl ⟨by simp [Instr.findNow, s1, he, q1], ⟨e, es', F1, F2, rfl, rfl, h3, h4, q2⟩, fun y => by simp [mapPut, he, q3]⟩
   ·exact .inr ⟨p :: m1, y0, m2, e :: e1, e', e2, F1 ++ G1, G2, by rw [q1]; rfl, by rw [q2]; rfl, by rw [q3, List.append_assoc], ⟨e, e1, F1, G1, rfl, rfl, h3, h4, q4⟩, q5, q6, by simp [Instr.findNow, s1, he, q7]; omega, fun y => by simp [mapPut, he, q8]⟩
theorem wMakeMapB_ok (hT : TabOk P tab) (hh : HOk B m H w) {t : Nat} (ho : o.op = .makeMap t none) : WayOk P B m H w o a (wMakeMapB tab o.dst t) := by
 unfold wMakeMapB
 split
 ·rename_i kj ej σ d hmt hdst
  intro Q hQ
  simp only at hQ
  split at hQ
  ·rename_i hc
   have hda := absent_of hc (by simp)
   have ch : Change B m H w (d :: []) (m.set d (.map (some w.heap.size)) [w.heap.size]) (putH H ((d, .live (.mapb 0 kj.ty σ [] none)) :: deads [])) (w.alloc (.map #[] 0)) := by
    refine Change.one (w' := w.alloc (.map #[] 0)) (ob := .mapb 0 kj.ty σ [] none) hh (by simp) (by simp) rfl rfl rfl (by simp) (fun b hb _ => alloc_old hb) ⟨w.heap.size, #[], 0, [], rfl, rfl, alloc_new, ⟨by simp, by simp⟩, rfl, rfl⟩ (fun b hb => ?_) (by simp) (fun h => absurd hda h)
    simp only [List.mem_singleton] at hb
    subst hb
    exact ⟨fun hz => by have := hh.zl _ hz; omega, .inr ⟨Nat.le_refl _, by simp⟩⟩
   refine ⟨_, _, hQ, OpOk.value (v := .map (some w.heap.size)) (w' := w.alloc (.map #[] 0)) ?_ ⟨_, hh.change ch, hh.evo ch, AVRep.mk1 ⟨?_, ?_⟩⟩⟩
   ·simp [execOp, ho, Instr.makeMap, World.alloc_eq]
   ·simp only [deads, List.map_nil, putH]; rw [upd_same]; simp
   ·intro g k e mm ho' _
    simp only [Md.set]; rw [upd_same]
  ·exact hQ.elim
 ·exact wMakeMap_ok hT hh ho

theorem EvoAt.mapb_ {id g g0 : Nat} {k e : Ty} {mm mm0 : List (k.den × e.den)} {ho ho0} (h0 : H id = .live (.mapb g0 k e mm0 ho0)) (h : H1 id = .live (.mapb g k e mm ho)) (hg : g0 < g) (hd : m1.hd id = m.hd id) : EvoAt m H w m1 H1 w' id :=
 ⟨by rw [h]; exact (fun hh => by cases hh), fun _ _ hh => by rw [h] at hh; (cases hh), fun _ _ hh => by rw [h] at hh; (cases hh), fun _ _ hh => by rw [h] at hh; (cases hh), fun _ _ _ hh => by rw [h] at hh; (cases hh), fun _ _ _ hh => by rw [h] at hh; (cases hh), fun _ _ _ _ hh => by rw [h] at hh; (cases hh), fun _ _ _ _ _ hh => by rw [h] at hh; cases hh; exact ⟨hd, g0, mm0, ho0, h0, by omega, fun e => by omega⟩⟩
theorem mapb_cell (hh : HOk B m H w) {id g : Nat} {τ σ : Ty} {mm : List (τ.den × σ.den)} {ho} (hx : H id = .live (.mapb g τ σ mm ho)) : ∃ b ents clock F', m.hd id = .map (some b) ∧ m.ft id = b :: F' ∧ w.heap[b]? = some (.map ents clock) ∧ Born ents.toList clock ∧ MEnt m.Z w τ σ mm ho ents.toList F' := by
 have hc := hh.cr id
 rw [hx] at hc
 exact hc

theorem wLookupB_ok (hT : TabOk P tab) (hh : HOk B m H w) {t : Nat} {x k : Operand} {ok : Bool} (ho : o.op = .lookup t x k ok) {X K : AV} (hX : AVRep m w H X (a.eval x)) (hK : AVRep m w H K (a.eval k)) : WayOk P B m H w o a (wLookupB tab t X K ok) := by
 unfold wLookupB
 split
 ·rename_i id
  split
  ·rename_i kj ej ks hmt
   obtain ⟨kt, et, d, t1, t2, t3, t4, t5⟩ := mapTy_ok hT hmt
   obtain ⟨inf, z, i1, i2, i3, i4, i5, i6⟩ := (hT et ej t2).info
   intro Q hQ
   simp only at hQ
   split at hQ
   ·rename_i g τ e mm hx hag hze
    have hx := live_of_only hx
    split at hQ
    ·rename_i hτ
     have hτ : kj.ty = τ := by simpa using hτ
     split at hQ
     ·rename_i kx hkx
      rw [hτ] at t4
      obtain ⟨b, ents, clock, F', m1, m2, m3, m5, m4⟩ := mapb_cell hh hx
      have hv := hX.one.2 _ _ _ _ _ hx
      obtain ⟨cs, c1, c2⟩ := hK
      have hcs : cs = [a.eval k] := c1
      subst hcs
      have hkr := asmAll_0 hkx c2
      have hz : z = .pointer none := by
       rw [hze] at i6
       rw [hag] at i5
       have i5 : z.cells.toList = [z] := i5
       rw [i5] at i6
       exact i6.1
      have run : ∀ (r : Option (Nat × Value)), Instr.findNow d (a.eval k) ents.toList 0 = some r → (execOp a.eval o).run P w = .ok (.value ((r.map (·.2)).getD (.pointer none))) w := fun r hr => by
       have h1 := MapKept.run_getObj_map (P := P) m3
       have h2 := MapKept.run_checkKey (P := P) (w := w) t3 (key_desc t4 hkr) ents.isEmpty 9999
       have h3 := MapKept.run_findKey (P := P) (w := w) t3 hr
       have h4 : (zeroValue et).run P w = .ok (.pointer none) w := by simp [zeroValue, typeInfo, i1, i4, hz]
       simp only [execOp, ho, Instr.lookup, Sem.run_bind, run_underlying t1, Result.andThen_ok, hv, m1, h1, Sem.run_pure, h2, h3]
       cases r with
       | none => simp only [Sem.run_bind, h4, Result.andThen_ok, Sem.run_pure]; rfl
       | some p => simp only [Sem.run_bind, Result.andThen_ok, Sem.run_pure]; rfl
      rcases findF_ok (σ := .ptr e) t4 hkr 0 m4 with ⟨q1, q2, q3, _⟩ | ⟨m1', y0, m2', e1, en, e2, F1, G, F2, q1, q2, q3, q4, q5, q6, q7, q8, q9, q10, q11, q12⟩
      ·rw [q3] at hQ
       rcases hQ with ⟨hb, _⟩ | ⟨_, hQ⟩
       ·cases hb
       ·exact ⟨_, _, hQ, OpOk.value (run none q1) (After.same hh (AVRep.mk1 rfl))⟩
      ·rw [q11] at hQ
       obtain ⟨vc, v1, v2⟩ := q7
       have v1 : [en.val] = vc := v1
       subst v1
       cases y0 with
       | none =>
        rcases hQ with ⟨hb, _⟩ | ⟨_, hQ⟩
        ·cases hb
        ·have v2 : en.val = .pointer none := by
          have := v2.1
          simpa using this
         exact ⟨_, _, hQ, OpOk.value (run _ q9) (After.same hh (AVRep.mk1 v2))⟩
       | some y =>
        rcases hQ with ⟨_, hQ⟩ | ⟨hb, _⟩
        ·obtain ⟨bx, el, cc, Fb, z1, z2, z3, z4⟩ := v2
         have z1 : en.val = .pointer (some ⟨bx, 0, none⟩) := by simpa using z1
         refine ⟨_, _, hQ, OpOk.value (run _ q9) (After.same hh (AVRep.mk1 ⟨by rw [hx]; simp, fun g0 k0 e0 mm0 ho0 h0 => ?_, fun e0 mm0 ho0 h0 => ?_⟩))⟩
         ·rw [hx] at h0; cases h0; exact Nat.le_refl _
         ·exact ⟨b, ents, clock, 0 + e1.length, bx, d, a.eval k, m1, m3, t4, hkr, by rw [q9, z1], z1⟩
        ·cases hb
     ·exact hQ.elim
    ·exact hQ.elim
   ·rename_i g τ e mm hx hag hze
    have hx := live_of_only hx
    split at hQ
    ·rename_i hτ
     have hτ : kj.ty = τ := by simpa using hτ
     split at hQ
     ·rename_i kx hkx
      rw [hτ] at t4
      obtain ⟨b, ents, clock, F', m1, m2, m3, m5, m4⟩ := mapb_cell hh hx
      have hv := hX.one.2 _ _ _ _ _ hx
      obtain ⟨cs, c1, c2⟩ := hK
      have hcs : cs = [a.eval k] := c1
      subst hcs
      have hkr := asmAll_0 hkx c2
      have hz : z = .slice none 0 0 := by
       rw [hze] at i6
       rw [hag] at i5
       have i5 : z.cells.toList = [z] := i5
       rw [i5] at i6
       exact i6.1
      have run : ∀ (r : Option (Nat × Value)), Instr.findNow d (a.eval k) ents.toList 0 = some r → (execOp a.eval o).run P w = .ok (.value ((r.map (·.2)).getD (.slice none 0 0))) w := fun r hr => by
       have h1 := MapKept.run_getObj_map (P := P) m3
       have h2 := MapKept.run_checkKey (P := P) (w := w) t3 (key_desc t4 hkr) ents.isEmpty 9999
       have h3 := MapKept.run_findKey (P := P) (w := w) t3 hr
       have h4 : (zeroValue et).run P w = .ok (.slice none 0 0) w := by simp [zeroValue, typeInfo, i1, i4, hz]
       simp only [execOp, ho, Instr.lookup, Sem.run_bind, run_underlying t1, Result.andThen_ok, hv, m1, h1, Sem.run_pure, h2, h3]
       cases r with
       | none => simp only [Sem.run_bind, h4, Result.andThen_ok, Sem.run_pure]; rfl
       | some p => simp only [Sem.run_bind, Result.andThen_ok, Sem.run_pure]; rfl
      have fin : ∀ (r : Option (Nat × Value)), Instr.findNow d (a.eval k) ents.toList 0 = some r → ((Instr.findNow d (a.eval k) ents.toList 0 = some none ∧ (r.map (·.2)).getD (.slice none 0 0) = .slice none 0 0) ∨ ∃ j, Instr.findNow d (a.eval k) ents.toList 0 = some (some (j, (r.map (·.2)).getD (.slice none 0 0)))) → OpOk P o a w (After B m H w (.val false [.mvl id g τ kx]) []) := fun r h1 h2 => by
       refine OpOk.value (run r h1) (After.same hh (AVRep.mk1 ⟨by rw [hx]; simp, fun g0 k0 e0 mm0 ho0 h0 => ?_, fun e0 mm0 ho0 h0 => ?_⟩))
       ·rw [hx] at h0; cases h0; exact Nat.le_refl _
       ·rw [hx] at h0; cases h0
        exact ⟨b, ents, clock, d, a.eval k, m1, m3, t4, hkr, h2⟩
      refine ⟨_, _, hQ, ?_⟩
      rcases findF_ok (σ := .vec e) t4 hkr 0 m4 with ⟨q1, q2, q3, _⟩ | ⟨m1', y0, m2', e1, en, e2, F1, G, F2, q1, q2, q3, q4, q5, q6, q7, q8, q9, q10, q11, q12⟩
      ·exact fin none q1 (.inl ⟨q1, rfl⟩)
      ·exact fin _ q9 (.inr ⟨_, q9⟩)
     ·exact hQ.elim
    ·exact hQ.elim
   ·exact hQ.elim
  ·exact WayOk.fail
 ·exact wLookup_ok hT hh ho hX hK
theorem wMapUpdateB_ok (hT : TabOk P tab) (hh : HOk B m H w) {t : Nat} {x k y : Operand} (ho : o.op = .mapUpdate t x k y ∨ o.op = .insert t x k y) {X K Y : AV} (hX : AVRep m w H X (a.eval x)) (hK : AVRep m w H K (a.eval k)) (hY : AVRep m w H Y (a.eval y)) : WayOk P B m H w o a (wMapUpdateB tab t X K Y) := by
 have ex : ∀ {w1 : World}, (Instr.mapUpdate t (a.eval x) (a.eval k) (a.eval y)).run P w = .ok () w1 → (execOp a.eval o).run P w = .ok .skip w1 := fun h => by
  rcases ho with ho | ho <;> simp only [execOp, ho, Sem.run_bind, h, Result.andThen_ok, Sem.run_pure]
 unfold wMapUpdateB
 split
 ·rename_i id id2
  split
  ·rename_i kj ej ks hmt
   obtain ⟨kt, et, d, t1, t2, t3, t4, t5⟩ := mapTy_ok hT hmt
   intro Q hQ
   simp only at hQ
   split at hQ
   ·rename_i g τ e mm g2 ls hx hx2
    have hx := live_of_only hx
    have hx2 := live_of_only hx2
    split at hQ
    ·rename_i hc
     simp only [Bool.and_eq_true, decide_eq_true_eq, Bool.not_eq_true'] at hc
     obtain ⟨hτ, hne⟩ := hc
     have hne : id ≠ id2 := fun e => by rw [e, Nat.beq_refl] at hne; cases hne
     split at hQ
     ·rename_i kx yx hkx hyx
      rw [hτ] at t4
      obtain ⟨b, ents, clock, F', m1, m2, m3, m5, m4⟩ := mapb_cell hh hx
      have hL : (H id).Live := by rw [hx]; trivial
      have hL2 : (H id2).Live := by rw [hx2]; trivial
      have hv := hX.one.2 _ _ _ _ _ hx
      obtain ⟨cs, c1, c2⟩ := hK
      have hcs : cs = [a.eval k] := c1
      subst hcs
      have hkr := asmAll_0 hkx c2
      have hc2 := hh.cr id2
      rw [hx2] at hc2
      obtain ⟨bx, el, cc, Fx, k1, k2, k3, k4⟩ := hc2
      obtain ⟨bx', k5, k6⟩ := hY.one.2 _ _ hx2
      rw [k1] at k5; cases k5
      have hyr := asmAllO hyx k4
      have hbm : b ∈ m.ft id := by rw [m2]; simp
      have hbn : ∀ z ∈ F', z ≠ b := fun z hz e => by
       have := hh.nd id hL
       rw [m2, List.nodup_cons] at this
       exact this.1 (e ▸ hz)
      have hbn2 : ∀ z ∈ m.ft id2, z ≠ b := fun z hz e => hh.sp id id2 hne hL hL2 b hbm (e ▸ hz)
      have hbz := hh.nz id hL b hbm
      have h1 := MapKept.run_getObj_map (P := P) m3
      have h2 := MapKept.run_checkKey (P := P) (w := w) t3 (key_desc t4 hkr) false 9999
      have fin : ∀ (es' : Array MapEntry) (clock' : Nat) (G : List Nat), Born es'.toList clock' → (Instr.mapUpdate t (a.eval x) (a.eval k) (a.eval y)).run P w = .ok () { w with heap := w.heap.setIfInBounds b (.map es' clock') } →
       RepMF (TV m.Z w τ (.ptr e)) (KV m.Z w τ) (mapPut τ (.ptr e) kx (some yx) mm) es'.toList G → (∀ z ∈ G, z ∈ F' ∨ z ∈ m.ft id2) → G.Nodup → OpOk P o a w (After B m H w .undef [(id, .live (.mapb (g + 1) τ (.ptr e) (mapPut τ (.ptr e) kx (some yx) mm) none)), (id2, .dead)]) := fun es' clock' G hbn' hr hm hG hGn => by
       obtain ⟨s1, s2⟩ := MapKept.heap_set (o' := .map es' clock') m3
       have ch : Change B m H w (id :: [id2]) (m.set id (m.hd id) (b :: G)) (putH H ((id, .live (.mapb (g + 1) τ (.ptr e) (mapPut τ (.ptr e) kx (some yx) mm) none)) :: deads [id2])) { w with heap := w.heap.setIfInBounds b (.map es' clock') } := by
        refine Change.one (w' := { w with heap := w.heap.setIfInBounds b (.map es' clock') }) (ob := .mapb (g + 1) τ (.ptr e) (mapPut τ (.ptr e) kx (some yx) mm) none) hh (by simp [hL2]) (by simp [hne]) rfl rfl rfl (by simp) (fun z hz hnB => s2 z fun ez => hnB ⟨id, by simp, hL, by rw [ez]; exact hbm⟩) ?_ (fun z hz => ?_) ?_ (fun _ => ?_)
        ·refine ⟨b, es', clock', G, m1, rfl, s1, hbn', ?_⟩
         refine RepMF.mono_F (G := G) (fun x v ⟨kc, q1, q2⟩ => ⟨kc, q1, q2.frame (fun z hz => s2 z fun ez => hbz.1 (ez ▸ hz)) (fun _ h => h) (by simp)⟩) (fun x y v F ⟨vc, q1, q2⟩ hF => ⟨vc, q1, q2.frame (fun z hz => s2 z fun ez => hbz.1 (ez ▸ hz)) (fun _ h => h) (fun z hz => s2 z ?_)⟩) (fun _ h => h) hm
         rcases hG z (hF z hz) with h | h
         ·exact hbn z h
         ·exact hbn2 z h
        ·rcases List.mem_cons.1 hz with rfl | hz
         ·exact ⟨hbz.1, .inl ⟨id, by simp, hL, hbm⟩⟩
         ·rcases hG z hz with h | h
          ·exact ⟨(hh.nz id hL z (by rw [m2]; simp [h])).1, .inl ⟨id, by simp, hL, by rw [m2]; simp [h]⟩⟩
          ·exact ⟨(hh.nz id2 hL2 z h).1, .inl ⟨id2, by simp, hL2, h⟩⟩
        ·rw [List.nodup_cons]
         refine ⟨fun h => ?_, hGn⟩
         rcases hG b h with h | h
         ·exact hbn b h rfl
         ·exact hbn2 b h rfl
        ·have hp := putH_cons H id (.live (.mapb (g + 1) τ (.ptr e) (mapPut τ (.ptr e) kx (some yx) mm) none)) [id2] (by simp [hne])
         exact EvoAt.mapb_ hx hp (Nat.lt_succ_self _) (by simp only [Md.set]; rw [upd_same])
       exact OpOk.skip (ex hr) ⟨_, hh.change ch, hh.evo ch, rfl⟩
      have hTy : ∀ {v : Value}, v = a.eval y → TV m.Z w τ (.ptr e) kx (some yx) v (m.ft id2) := fun {v} hv => ⟨[v], rfl, by
       rw [hv, k6, k2]
       exact ⟨bx, el, cc, Fx, rfl, rfl, k3, hyr⟩⟩
      have hFn : F'.Nodup := by have := hh.nd id hL; rw [m2, List.nodup_cons] at this; exact this.2
      have hdis : ∀ z ∈ F', z ∉ m.ft id2 := fun z hz hz2 => hh.sp id id2 hne hL hL2 z (by rw [m2]; simp [hz]) hz2
      refine ⟨_, _, hQ, ?_⟩
      rcases findF_ok (σ := .ptr e) t4 hkr 0 m4 with ⟨q1, q2, q3, q4⟩ | ⟨m1', y0, m2', e1, en, e2, F1, G, F2, q1, q2, q3, q4, q5, q6, q7, q8, q9, q10, q11, q12⟩
      ·refine fin (ents.push { key := a.eval k, val := a.eval y, born := clock }) (clock + 1) (F' ++ (m.ft id2 ++ [])) (by rw [Array.toList_push]; exact m5.push) ?_ ?_ (fun z hz => by simpa using hz) ?_
       ·have h3 := MapKept.run_findKey (P := P) (w := w) t3 q1
        simp only [Instr.mapUpdate, Sem.run_bind, run_underlying t1, Result.andThen_ok, hv, m1, h1, h2, h3]
        exact MapKept.run_setObj_map _ m3
       ·rw [Array.toList_push, q4]
        exact RepMF.append m4 ⟨_, [], m.ft id2, [], rfl, rfl, KV.mk1 t4 hkr, hTy rfl, rfl, rfl⟩
       ·rw [List.append_nil, List.nodup_append]
        exact ⟨hFn, hh.nd id2 hL2, fun z hz z2 hz2 e => hdis z hz (e ▸ hz2)⟩
      ·have hj2 : ents.toList[e1.length]? = some en := by rw [q2]; simp
       have hj : e1.length < ents.size := by have := (List.getElem?_eq_some_iff.1 hj2).1; simpa using this
       have hml : (ents.modify e1.length fun e => { e with key := a.eval k, val := a.eval y }).toList = e1 ++ { en with key := a.eval k, val := a.eval y } :: e2 := by
        rw [Array.toList_modify, q2]
        apply List.ext_getElem?
        intro i
        rw [List.getElem?_modify]
        by_cases hij : e1.length = i
        ·subst hij; simp
        ·rcases Nat.lt_or_gt_of_ne hij with h | h
         ·rw [List.getElem?_append_right (by omega), List.getElem?_append_right (by omega)]
          have : i - e1.length = (i - e1.length - 1) + 1 := by omega
          rw [this]; simp [hij]
         ·rw [List.getElem?_append_left (by omega), List.getElem?_append_left (by omega)]; simp [hij]
       have hF1 : ∀ z, z ∈ F1 ∨ z ∈ F2 → z ∈ F' := fun z hz => by rw [q3]; rcases hz with h | h <;> simp [h]
       rw [q3, List.nodup_append, List.nodup_append] at hFn
       refine fin (ents.modify e1.length fun e => { e with key := a.eval k, val := a.eval y }) clock (F1 ++ (m.ft id2 ++ F2)) ?_ ?_ ?_ (fun z hz => ?_) ?_
       ·rw [hml]
        have := m5.set hj2 (e' := { en with key := a.eval k, val := a.eval y }) rfl
        rw [q2] at this
        simpa using this
       ·have h3 := MapKept.run_findKey (P := P) (w := w) t3 q9
        have hj : ents[e1.length]? = some en := by simpa using hj2
        have hsame : Instr.sameBits 10000 (a.eval k) (a.eval k) = true := by
         have := key_desc t4 hkr
         revert this
         cases a.eval k <;> cases d <;> simp [MapKept.IsKey, Instr.sameBits, MapKept.bytes_beq]
        simp only [Instr.mapUpdate, Sem.run_bind, run_underlying t1, Result.andThen_ok, hv, m1, h1, h2, h3, Nat.zero_add, hj, Option.map_some, Option.getD_some, q6, Instr.keyThatStays, hsame, if_true, Sem.run_pure]
        exact MapKept.run_setObj_map _ m3
       ·rw [hml, q12]
        exact RepMF.append q5 ⟨_, e2, m.ft id2, F2, rfl, rfl, KV.mk1 t4 hkr, hTy rfl, q8⟩
       ·simp only [List.mem_append] at hz
        rcases hz with h | h | h
        ·exact .inl (hF1 z (.inl h))
        ·exact .inr h
        ·exact .inl (hF1 z (.inr h))
       ·rw [List.nodup_append, List.nodup_append]
        refine ⟨hFn.1, ⟨hh.nd id2 hL2, hFn.2.1.2.1, fun z hz z2 hz2 e => hdis z2 (hF1 z2 (.inr hz2)) (e ▸ hz)⟩, fun z hz z2 hz2 e => ?_⟩
        rcases List.mem_append.1 hz2 with h | h
        ·exact hdis z (hF1 z (.inl hz)) (e ▸ h)
        ·exact hFn.2.2 z hz z2 (by simp [h]) e
     ·exact hQ.elim
    ·exact hQ.elim
   ·exact hQ.elim
  ·exact WayOk.fail
 ·rename_i id id2
  split
  ·rename_i kj ej ks hmt
   obtain ⟨kt, et, d, t1, t2, t3, t4, t5⟩ := mapTy_ok hT hmt
   intro Q hQ
   simp only at hQ
   split at hQ
   ·rename_i g τ e mm hk e' ys hx hx2
    have hx := live_of_only hx
    have hx2 := live_of_only hx2
    split at hQ
    ·rename_i hc
     simp only [Bool.and_eq_true, decide_eq_true_eq, Bool.not_eq_true'] at hc
     obtain ⟨hτ, hne⟩ := hc
     have hne : id ≠ id2 := fun e => by rw [e, Nat.beq_refl] at hne; cases hne
     split at hQ
     ·rename_i kx yx hkx hyx
      obtain ⟨hkk, hQ⟩ := hQ
      rw [hτ] at t4
      obtain ⟨hee, hyx⟩ := castTo_eq hyx
      cases hee
      have hyx : ys = yx := hyx
      subst hyx
      have hkk := eqV_key t4 hkk
      subst hkk
      obtain ⟨b, ents, clock, F', m1, m2, m3, m5, m4⟩ := mapb_cell hh hx
      have hL : (H id).Live := by rw [hx]; trivial
      have hL2 : (H id2).Live := by rw [hx2]; trivial
      have hv := hX.one.2 _ _ _ _ _ hx
      obtain ⟨cs, c1, c2⟩ := hK
      have hcs : cs = [a.eval k] := c1
      subst hcs
      have hkr := asmAll_0 hkx c2
      have hc2 := hh.cr id2
      rw [hx2] at hc2
      have hyv := hY.one.2.1 _ _ hx2
      have hbm : b ∈ m.ft id := by rw [m2]; simp
      have hbn : ∀ z ∈ F', z ≠ b := fun z hz e => by
       have := hh.nd id hL
       rw [m2, List.nodup_cons] at this
       exact this.1 (e ▸ hz)
      have hbn2 : ∀ z ∈ m.ft id2, z ≠ b := fun z hz e => hh.sp id id2 hne hL hL2 b hbm (e ▸ hz)
      have hbz := hh.nz id hL b hbm
      have h1 := MapKept.run_getObj_map (P := P) m3
      have h2 := MapKept.run_checkKey (P := P) (w := w) t3 (key_desc t4 hkr) false 9999
      have fin : ∀ (es' : Array MapEntry) (clock' : Nat) (G : List Nat), Born es'.toList clock' → (Instr.mapUpdate t (a.eval x) (a.eval k) (a.eval y)).run P w = .ok () { w with heap := w.heap.setIfInBounds b (.map es' clock') } →
       RepMF (TV m.Z w τ (.vec e)) (KV m.Z w τ) (mapPut τ (.vec e) kx ys mm) es'.toList G → (∀ z ∈ G, z ∈ F' ∨ z ∈ m.ft id2) → G.Nodup → OpOk P o a w (After B m H w .undef [(id, .live (.mapb (g + 1) τ (.vec e) (mapPut τ (.vec e) kx ys mm) none)), (id2, .dead)]) := fun es' clock' G hbn' hr hm hG hGn => by
       obtain ⟨s1, s2⟩ := MapKept.heap_set (o' := .map es' clock') m3
       have ch : Change B m H w (id :: [id2]) (m.set id (m.hd id) (b :: G)) (putH H ((id, .live (.mapb (g + 1) τ (.vec e) (mapPut τ (.vec e) kx ys mm) none)) :: deads [id2])) { w with heap := w.heap.setIfInBounds b (.map es' clock') } := by
        refine Change.one (w' := { w with heap := w.heap.setIfInBounds b (.map es' clock') }) (ob := .mapb (g + 1) τ (.vec e) (mapPut τ (.vec e) kx ys mm) none) hh (by simp [hL2]) (by simp [hne]) rfl rfl rfl (by simp) (fun z hz hnB => s2 z fun ez => hnB ⟨id, by simp, hL, by rw [ez]; exact hbm⟩) ?_ (fun z hz => ?_) ?_ (fun _ => ?_)
        ·refine ⟨b, es', clock', G, m1, rfl, s1, hbn', ?_⟩
         refine RepMF.mono_F (G := G) (fun x v ⟨kc, q1, q2⟩ => ⟨kc, q1, q2.frame (fun z hz => s2 z fun ez => hbz.1 (ez ▸ hz)) (fun _ h => h) (by simp)⟩) (fun x y v F ⟨vc, q1, q2⟩ hF => ⟨vc, q1, q2.frame (fun z hz => s2 z fun ez => hbz.1 (ez ▸ hz)) (fun _ h => h) (fun z hz => s2 z ?_)⟩) (fun _ h => h) hm
         rcases hG z (hF z hz) with h | h
         ·exact hbn z h
         ·exact hbn2 z h
        ·rcases List.mem_cons.1 hz with rfl | hz
         ·exact ⟨hbz.1, .inl ⟨id, by simp, hL, hbm⟩⟩
         ·rcases hG z hz with h | h
          ·exact ⟨(hh.nz id hL z (by rw [m2]; simp [h])).1, .inl ⟨id, by simp, hL, by rw [m2]; simp [h]⟩⟩
          ·exact ⟨(hh.nz id2 hL2 z h).1, .inl ⟨id2, by simp, hL2, h⟩⟩
        ·rw [List.nodup_cons]
         refine ⟨fun h => ?_, hGn⟩
         rcases hG b h with h | h
         ·exact hbn b h rfl
         ·exact hbn2 b h rfl
        ·have hp := putH_cons H id (.live (.mapb (g + 1) τ (.vec e) (mapPut τ (.vec e) kx ys mm) none)) [id2] (by simp [hne])
         exact EvoAt.mapb_ hx hp (Nat.lt_succ_self _) (by simp only [Md.set]; rw [upd_same])
       exact OpOk.skip (ex hr) ⟨_, hh.change ch, hh.evo ch, rfl⟩
      have hTy : ∀ {v : Value}, v = a.eval y → TV m.Z w τ (.vec e) kx ys v (m.ft id2) := fun {v} hv => ⟨[v], rfl, by rw [hv, hyv]; exact hc2⟩
      have hFn : F'.Nodup := by have := hh.nd id hL; rw [m2, List.nodup_cons] at this; exact this.2
      have hdis : ∀ z ∈ F', z ∉ m.ft id2 := fun z hz hz2 => hh.sp id id2 hne hL hL2 z (by rw [m2]; simp [hz]) hz2
      refine ⟨_, _, hQ, ?_⟩
      rcases findH_ok (σ := .vec e) t4 hkr 0 m4 with ⟨q1, m4, q4⟩ | ⟨m1', y0, m2', e1, en, e2, F1, F2, q1, q2, q3, q5, q6, q8, q9, q12⟩
      ·refine fin (ents.push { key := a.eval k, val := a.eval y, born := clock }) (clock + 1) (F' ++ (m.ft id2 ++ [])) (by rw [Array.toList_push]; exact m5.push) ?_ ?_ (fun z hz => by simpa using hz) ?_
       ·have h3 := MapKept.run_findKey (P := P) (w := w) t3 q1
        simp only [Instr.mapUpdate, Sem.run_bind, run_underlying t1, Result.andThen_ok, hv, m1, h1, h2, h3]
        exact MapKept.run_setObj_map _ m3
       ·rw [Array.toList_push, q4]
        exact RepMF.append m4 ⟨_, [], m.ft id2, [], rfl, rfl, KV.mk1 t4 hkr, hTy rfl, rfl, rfl⟩
       ·rw [List.append_nil, List.nodup_append]
        exact ⟨hFn, hh.nd id2 hL2, fun z hz z2 hz2 e => hdis z hz (e ▸ hz2)⟩
      ·have hj2 : ents.toList[e1.length]? = some en := by rw [q2]; simp
       have hj : e1.length < ents.size := by have := (List.getElem?_eq_some_iff.1 hj2).1; simpa using this
       have hml : (ents.modify e1.length fun e => { e with key := a.eval k, val := a.eval y }).toList = e1 ++ { en with key := a.eval k, val := a.eval y } :: e2 := by
        rw [Array.toList_modify, q2]
        apply List.ext_getElem?
        intro i
        rw [List.getElem?_modify]
        by_cases hij : e1.length = i
        ·subst hij; simp
        ·rcases Nat.lt_or_gt_of_ne hij with h | h
         ·rw [List.getElem?_append_right (by omega), List.getElem?_append_right (by omega)]
          have : i - e1.length = (i - e1.length - 1) + 1 := by omega
          rw [this]; simp [hij]
         ·rw [List.getElem?_append_left (by omega), List.getElem?_append_left (by omega)]; simp [hij]
       have hF1 : ∀ z, z ∈ F1 ∨ z ∈ F2 → z ∈ F' := fun z hz => by rw [q3]; rcases hz with h | h <;> simp [h]
       rw [q3, List.nodup_append] at hFn
       refine fin (ents.modify e1.length fun e => { e with key := a.eval k, val := a.eval y }) clock (F1 ++ (m.ft id2 ++ F2)) ?_ ?_ ?_ (fun z hz => ?_) ?_
       ·rw [hml]
        have := m5.set hj2 (e' := { en with key := a.eval k, val := a.eval y }) rfl
        rw [q2] at this
        simpa using this
       ·have h3 := MapKept.run_findKey (P := P) (w := w) t3 q9
        have hj : ents[e1.length]? = some en := by simpa using hj2
        have hsame : Instr.sameBits 10000 (a.eval k) (a.eval k) = true := by
         have := key_desc t4 hkr
         revert this
         cases a.eval k <;> cases d <;> simp [MapKept.IsKey, Instr.sameBits, MapKept.bytes_beq]
        simp only [Instr.mapUpdate, Sem.run_bind, run_underlying t1, Result.andThen_ok, hv, m1, h1, h2, h3, Nat.zero_add, hj, Option.map_some, Option.getD_some, q6, Instr.keyThatStays, hsame, if_true, Sem.run_pure]
        exact MapKept.run_setObj_map _ m3
       ·rw [hml, q12]
        exact RepMF.append q5 ⟨_, e2, m.ft id2, F2, rfl, rfl, KV.mk1 t4 hkr, hTy rfl, q8⟩
       ·simp only [List.mem_append] at hz
        rcases hz with h | h | h
        ·exact .inl (hF1 z (.inl h))
        ·exact .inr h
        ·exact .inl (hF1 z (.inr h))
       ·rw [List.nodup_append, List.nodup_append]
        refine ⟨hFn.1, ⟨hh.nd id2 hL2, hFn.2.1, fun z hz z2 hz2 e => hdis z2 (hF1 z2 (.inr hz2)) (e ▸ hz)⟩, fun z hz z2 hz2 e => ?_⟩
        rcases List.mem_append.1 hz2 with h | h
        ·exact hdis z (hF1 z (.inl hz)) (e ▸ h)
        ·exact hFn.2.2 z hz z2 h e
     ·exact hQ.elim
    ·exact hQ.elim
   ·exact hQ.elim
  ·exact WayOk.fail
 ·exact wMapUpdateF_ok hT hh ho hX hK hY
theorem mel_ok (hh : HOk B m H w) {id g : Nat} {k e : Ty} {key : k.den} {off : Nat} {mm : List (k.den × Option e.den)} {c : Value} (hx : H id = .live (.mapb g k (.ptr e) mm none)) (h : LRep m w H (.mel id g k key off) c) :
 ∃ bm ents clock bx el cc Fb y m1 m2 e1 en e2 F1 F2, m.hd id = .map (some bm) ∧ m.ft id = bm :: (F1 ++ ((bx :: Fb) ++ F2)) ∧ w.heap[bm]? = some (.map ents clock) ∧ Born ents.toList clock ∧ c = .pointer (some ⟨bx, off, none⟩) ∧ w.heap[bx]? = some (.cells cc.toArray el (0, 0)) ∧ Rep m.Z w e y cc Fb ∧
  boxOf k e key mm = y ∧ mm = m1 ++ (key, some y) :: m2 ∧ ents.toList = e1 ++ en :: e2 ∧ en.val = .pointer (some ⟨bx, 0, none⟩) ∧ KV m.Z w k key en.key ∧ (∀ p ∈ m1, eqV k p.1 key = false) ∧ eqV k key key = true ∧ RepMF (TV m.Z w k (.ptr e)) (KV m.Z w k) m1 e1 F1 ∧ RepMF (TV m.Z w k (.ptr e)) (KV m.Z w k) m2 e2 F2 ∧
  (∀ y, mapPut k (.ptr e) key y mm = m1 ++ (key, y) :: m2) := by
 obtain ⟨bm, ents, clock, j, bx, d, kv, p1, p2, p3, p4, p5, p6⟩ := h.2.2 _ _ _ hx
 obtain ⟨b, ents', clock', F', h1, h2, h3, h5, h4⟩ := mapb_cell hh hx
 rw [p1] at h1; cases h1
 rw [p2] at h3; cases h3
 rcases findF_ok (σ := .ptr e) p3 p4 0 h4 with ⟨q1, _⟩ | ⟨m1', y0, m2', e1, en, e2, F1, G, F2, q1, q2, q3, q4, q5, q6, q7, q8, q9, q10, q11, q12⟩
 ·rw [q1] at p5; cases p5
 ·rw [q9] at p5
  simp only [Option.some.injEq, Prod.mk.injEq] at p5
  obtain ⟨_, hen⟩ := p5
  obtain ⟨vc, v1, v2⟩ := q7
  have v1 : [en.val] = vc := v1
  subst v1
  rw [hen] at v2
  cases y0 with
  | none => have := v2.1; simp at this
  | some y =>
   obtain ⟨bx', el, cc, Fb, z1, z2, z3, z4⟩ := v2
   simp only [List.cons.injEq, Value.pointer.injEq, Option.some.injEq, Addr.mk.injEq, and_true] at z1
   subst z1; subst z2
   refine ⟨bm, ents, clock, bx, el, cc, Fb, y, m1', m2', e1, en, e2, F1, F2, p1, by rw [h2, q3], p2, h5, p6, z3, z4, ?_, q1, q2, hen, KV.mk1 p3 (by rw [q6]; exact p4), q4, eqV_refl p3 key, q5, q8, q12⟩
   unfold boxOf
   rw [q11]; rfl
theorem wLoadB_ok (hT : TabOk P tab) (hh : HOk B m H w) {t : Nat} {x : Operand} (ho : o.op = .load t x) {X : AV} (hX : AVRep m w H X (a.eval x)) : WayOk P B m H w o a (wLoadB tab t X) := by
 have ex : ∀ {v}, (Instr.loadAt t (a.eval x)).run P w = .ok v w → (execOp a.eval o).run P w = .ok (.value v) w := fun h => by
  simp only [execOp, ho, Sem.run_bind, h, Result.andThen_ok, Sem.run_pure]
 unfold wLoadB
 split
 ·rename_i id g k key off
  split
  ·rename_i i hi
   intro Q hQ
   simp only at hQ
   split at hQ
   ·rename_i g' k' e mm hx
    have hx := live_of_only hx
    split at hQ
    ·rename_i key' hg hk
     obtain rfl := Nat.eq_of_beq_eq_true hg
     obtain ⟨he, hk⟩ := castTo_eq hk
     subst he; subst hk
     split at hQ
     ·rename_i ns hn
      split at hQ
      ·rename_i hp
       obtain ⟨bm, ents, clock, bx, el, cc, Fb, y, m1, m2, e1, en, e2, F1, F2, p1, p2, p3, p4, p5, p6, p7, p8, _⟩ := mel_ok hh hx hX.one
       rw [p8] at hn
       have hcell : ∀ (j : Nat) (u : Value), cc[j]? = some u → w.cell? ⟨bx, 0 + j, none⟩ = some u := fun j u hu => by
        simp only [World.cell?, p6]
        simpa using hu
       have fl := flat_ok p7
       obtain ⟨G1, g1, g2⟩ := fl.drop1 ol1_len off
       obtain ⟨G2, g3, g4⟩ := g1.takeN' ol1_len hn
       have hcell2 : ∀ (j : Nat) (u : Value), ((cc.drop off).take i.ty.cells)[j]? = some u → w.cell? ⟨bx, off + j, none⟩ = some u := fun j u hu => by
        rw [List.getElem?_take] at hu
        split at hu
        ·rw [List.getElem?_drop] at hu
         simp only [World.cell?, p6]
         simpa using hu
        ·cases hu
       have hlen : ((cc.drop off).take i.ty.cells).length = i.ty.cells := by
        rw [g3.len (sz := 1) ol1_len, takeN_len hn, Nat.mul_one]
       obtain ⟨v, r1, r2⟩ := load_ok (P := P) (w := w) hT hi (b := bx) (p := off) hlen hcell2
       refine ⟨_, _, hQ, OpOk.value (ex (by rw [p5]; exact r1)) (After.same hh ⟨_, r2, ?_⟩)⟩
       have key : ∀ (ns : List LV) (cs : List Value) (G2 : List Nat), ns.all pureL = true → RepL (OL1 m.Z w) ns cs G2 → All2 (LRep m w H) ns cs := by
        intro ns
        induction ns with
        | nil =>
         intro cs G2 hp g3
         obtain ⟨h0, _⟩ := g3
         subst h0
         exact True.intro
        | cons l ns ih =>
         intro cs G2 hp g3
         rw [List.all_cons, Bool.and_eq_true] at hp
         obtain ⟨c1, c2, K1, K2, z1, z2, ⟨u, z3, z4⟩, z5⟩ := g3
         subst z1; subst z3
         refine ⟨?_, ih c2 K2 hp.2 z5⟩
         cases l with
         | v τ x =>
          have := Rep.pure hp.1 z4
          subst this; exact z4
         | nils => exact z4.1
         | nilm => exact z4.1
         | nilp => exact z4.1
         | _ => exact absurd hp.1 (by simp [pureL])
       exact key ns _ _ hp g3
      ·exact hQ.elim
     ·exact hQ.elim
    ·exact hQ.elim
   ·exact hQ.elim
  ·exact WayOk.fail
 ·exact wLoad_ok hT hh ho hX
theorem wFieldAddrB_ok (hT : TabOk P tab) (hh : HOk B m H w) {s f : Nat} {x : Operand} (ho : o.op = .fieldAddr s x f) {X : AV} (hX : AVRep m w H X (a.eval x)) : WayOk P B m H w o a (wFieldAddrB tab s X f) := by
 have go : ∀ {off b p}, fieldOff tab s f = some off → a.eval x = .pointer (some ⟨b, p, none⟩) → (execOp a.eval o).run P w = .ok (.value (.pointer (some ⟨b, p + off, none⟩))) w := fun h1 h2 => by
  simp only [execOp, ho, Sem.run_bind, h2, fieldAt_run hT h1, Result.andThen_ok, Sem.run_pure]
 unfold wFieldAddrB
 split
 ·rename_i id g k key p
  split
  ·rename_i off hoff
   intro Q hQ
   simp only at hQ
   split at hQ
   ·rename_i g' k' e mm hx
    have hx := live_of_only hx
    split at hQ
    ·rename_i hg hk
     obtain rfl := Nat.eq_of_beq_eq_true hg
     have hk : k = k' := by simpa using hk
     subst hk
     have h := hX.one
     obtain ⟨bm, ents, clock, j, bx, d, kv, p1, p2, p3, p4, p5, p6⟩ := h.2.2 _ _ _ hx
     refine ⟨_, _, hQ, OpOk.value (go hoff p6) (After.same hh (AVRep.mk1 ⟨h.1, h.2.1, fun e0 mm0 ho0 h0 => ?_⟩))⟩
     rw [hx] at h0; cases h0
     exact ⟨bm, ents, clock, j, bx, d, kv, p1, p2, p3, p4, p5, rfl⟩
    ·exact hQ.elim
   ·exact hQ.elim
  ·exact WayOk.fail
 ·exact wFieldAddr_ok hT hh ho hX
theorem wNilCheckB_ok (hh : HOk B m H w) {x : Operand} (ho : o.op = .nilCheck x) {X : AV} (hX : AVRep m w H X (a.eval x)) : WayOk P B m H w o a (wNilCheckB X) := by
 have go : ∀ {ad : Addr}, a.eval x = .pointer (some ad) → (execOp a.eval o).run P w = .ok (.value (.pointer (some ad))) w := fun h => by simp only [execOp, ho, h]; rfl
 unfold wNilCheckB
 split
 ·rename_i id g k key p
  intro Q hQ
  simp only at hQ
  split at hQ
  ·rename_i g' k' e mm hx
   have hx := live_of_only hx
   split at hQ
   ·rename_i hg hk
    obtain rfl := Nat.eq_of_beq_eq_true hg
    have hk : k = k' := by simpa using hk
    subst hk
    have h := hX.one
    obtain ⟨bm, ents, clock, j, bx, d, kv, p1, p2, p3, p4, p5, p6⟩ := h.2.2 _ _ _ hx
    refine ⟨_, _, hQ, OpOk.value (go p6) (After.same hh (AVRep.mk1 ⟨h.1, h.2.1, fun e0 mm0 ho0 h0 => ?_⟩))⟩
    rw [hx] at h0; cases h0
    exact ⟨bm, ents, clock, j, bx, d, kv, p1, p2, p3, p4, p5, rfl⟩
   ·exact hQ.elim
  ·exact hQ.elim
 ·exact wNilCheck_ok hh ho hX
theorem ptrTy_ok (hT : TabOk P tab) {t : Nat} (h : ptrTy tab t = true) : P.underlying t = some (.pointer (P.pointee t)) := by
 unfold ptrTy at h
 split at h
 ·rename_i i hi
  split at h
  ·rename_i hag hty
   have hu := (hT t i hi).und
   rw [hag] at hu
   obtain ⟨d, u1, u2, u3⟩ := hu
   simp only [descFits, hty] at u3
   obtain ⟨e, rfl⟩ := u3
   rw [u1, Program.pointee, u1]
  ·cases h
 ·cases h
theorem wBinB_ok (hT : TabOk P tab) (hh : HOk B m H w) {op : BinOp} {t : TypeId} {x y : Operand} {yt : TypeId} (ho : o.op = .binOp op t x y yt) {X Y : AV} (hX : AVRep m w H X (a.eval x)) (hY : AVRep m w H Y (a.eval y)) :
 WayOk P B m H w o a (wBinB tab op t X Y) := by
 have hg : ∀ {p q : Option Addr} , (eqGuard op t x y (.pointer p) (.pointer q)).run P w = .ok () w := fun {p q} => by
  unfold eqGuard
  cases op <;> simp
 unfold wBinB
 split
 ·have e1 : a.eval x = .pointer none := hX.one
  have e2 : a.eval y = .pointer none := hY.one
  split
  ·rename_i hp
   refine WayOk.one hh (exec_bin ho (by rw [e1, e2]; exact hg) (by rw [e1, e2]; exact run_eql_pointer_nil w t none (ptrTy_ok hT hp))) ⟨rfl, rfl⟩
  ·rename_i hp
   refine WayOk.one hh (exec_bin ho (by rw [e1, e2]; exact hg) (by rw [e1, e2]; exact run_neq_pointer_nil w t none (ptrTy_ok hT hp))) ⟨rfl, rfl⟩
  ·exact WayOk.fail
 ·rename_i id g k key off
  have e2 : a.eval y = .pointer none := hY.one
  intro Q hQ
  simp only at hQ
  split at hQ
  ·rename_i g' k' e mm hx
   have hx := live_of_only hx
   split at hQ
   ·rename_i hgg hk hp
    obtain rfl := Nat.eq_of_beq_eq_true hgg
    have hk : k = k' := by simpa using hk
    subst hk
    obtain ⟨bm, ents, clock, j, bx, d, kv, p1, p2, p3, p4, p5, p6⟩ := hX.one.2.2 _ _ _ hx
    exact ⟨_, _, hQ, OpOk.value (exec_bin ho (by rw [p6, e2]; exact hg) (by rw [p6, e2]; exact run_eql_pointer_nil w t _ (ptrTy_ok hT hp))) (After.same hh (AVRep.mk1 ⟨rfl, rfl⟩))⟩
   ·rename_i hgg hk hp
    obtain rfl := Nat.eq_of_beq_eq_true hgg
    have hk : k = k' := by simpa using hk
    subst hk
    obtain ⟨bm, ents, clock, j, bx, d, kv, p1, p2, p3, p4, p5, p6⟩ := hX.one.2.2 _ _ _ hx
    exact ⟨_, _, hQ, OpOk.value (exec_bin ho (by rw [p6, e2]; exact hg) (by rw [p6, e2]; exact run_neq_pointer_nil w t _ (ptrTy_ok hT hp))) (After.same hh (AVRep.mk1 ⟨rfl, rfl⟩))⟩
   ·exact hQ.elim
  ·exact hQ.elim
 ·exact wBin_ok hT hh ho hX hY
theorem wConvertB_ok (hT : TabOk P tab) (hh : HOk B m H w) {s d : TypeId} {x : Operand} (ho : o.op = .convert s d x) {X : AV} (hX : AVRep m w H X (a.eval x)) : WayOk P B m H w o a (wConvertB tab s d X) := by
 unfold wConvertB
 split
 ·rename_i id
  split
  ·rename_i q hsd hq
   obtain rfl := Nat.eq_of_beq_eq_true hsd
   obtain ⟨e, inf, u1, u2, u3, u4, u5⟩ := slTy_ok hT hq
   intro Q hQ
   simp only at hQ
   split at hQ
   ·rename_i xs hag hty hx
    have hx := live_of_only hx
    obtain ⟨hne, hQ⟩ := hQ
    have hL : (H id).Live := by rw [hx]; trivial
    have hu := (hT e q u2).und
    rw [hag] at hu
    obtain ⟨ds, v1, v2, v3⟩ := hu
    simp only [descFits, hty] at v3
    subst v3
    have hcr := hh.cr id
    rw [hx] at hcr
    obtain ⟨hl, ad, cap, cs, F1, F2, g2, g3, g4, g5, g6⟩ := hcr
    have hF2 : F2 = [] := RepL.noF (fun _ _ _ q => q.pure rfl) g5
    subst hF2
    rcases g6 with ⟨_, _, q3, _⟩ | ⟨b, p, blk, el, q1, q2, q3, q4, q5⟩
    ·exact absurd q3 hne
    ·subst q1
     have hhd : m.hd id = .slice (some ⟨b, p, none⟩) xs.length cap := by simpa using g2
     have hft : m.ft id = [b] := by rw [g4, q5]; rfl
     have hv := (hX.one.2.1 _ _ hx).trans hhd
     have hfz : ∃ f, w.freeze ⟨b, blk.size, none⟩ 1 = { w with heap := w.heap.modify b f } ∧ f (.cells blk el (0, 0)) = .cells blk el (blk.size, blk.size + 1) := by
      unfold World.freeze
      rw [if_neg (by decide)]
      exact ⟨_, rfl, rfl⟩
     obtain ⟨f, hfz, hf⟩ := hfz
     let w' : World := { w with heap := w.heap.modify b f }
     have hb : w'.heap[b]? = some (.cells blk el (blk.size, blk.size + 1)) := by
      show (w.heap.modify b _)[b]? = _
      rw [Array.getElem?_modify, if_pos rfl, q2, Option.map_some, hf]
     have ho' : ∀ z, z ≠ b → w'.heap[z]? = w.heap[z]? := fun z hz => by
      show (w.heap.modify b _)[z]? = _
      rw [Array.getElem?_modify, if_neg (fun h => hz h.symm)]
     have hsz : w'.heap.size = w.heap.size := by show (w.heap.modify b _).size = _; rw [Array.size_modify]
     have run : (execOp a.eval o).run P w = .ok (.value (.slice (some ⟨b, p, none⟩) xs.length cap)) w' := by
      have hsh : w.shape? b = some (el, blk.size) := by unfold World.shape?; rw [q2]
      simp [execOp, ho, hv, convert, run_underlying u1, run_underlying v1, markStringish, hsh, hfz, w']
     have hput : putH H [(id, .dead)] id = .dead := by simp only [putH]; rw [upd_same]
     let m1 : Md := ⟨fun z => m.Z z ∨ z = b, m.hd, m.ft⟩
     have hbz := hh.nz id hL b (by rw [hft]; simp)
     have ch : Change B m H w [id] m1 (putH H [(id, .dead)]) w' := by
      refine { os := rfl, tape := rfl, output := rfl, size := Nat.le_of_eq hsz.symm, un := fun i hi => ?_, blk := fun z _ hz => ho' z fun e => hz ⟨id, by simp, hL, by rw [hft, e]; simp⟩, zs := fun z hz => .inl hz, zi := fun z hz => ?_, cr := fun i hi => ?_, ft := fun i hi hl z hz => ?_, nd := fun i hi hl => ?_, sp := fun i hi j hj hij hli hlj => ?_, at_ := fun i hi hab => ?_ }
      ·simp only [List.mem_cons, List.not_mem_nil, or_false] at hi
       exact ⟨by simp only [putH]; rw [upd_other _ _ hi], rfl, rfl⟩
      ·exact hz.imp_right fun hz => .inl ⟨⟨id, by simp, hL, by rw [hft, hz]; simp⟩, by rw [hz]; exact hbz.2.1⟩
      ·simp only [List.mem_cons, List.not_mem_nil, or_false] at hi
       rw [hi, hput]; trivial
      ·simp only [List.mem_cons, List.not_mem_nil, or_false] at hi
       rw [hi, hput] at hl; exact hl.elim
      ·simp only [List.mem_cons, List.not_mem_nil, or_false] at hi
       rw [hi, hput] at hl; exact hl.elim
      ·simp only [List.mem_cons, List.not_mem_nil, or_false] at hi hj
       exact absurd (hi.trans hj.symm) hij
      ·simp only [List.mem_cons, List.not_mem_nil, or_false] at hi
       rw [hi]; exact EvoAt.dead hput
     refine ⟨_, _, hQ, OpOk.value run ⟨m1, hh.change ch, hh.evo ch, AVRep.mk1 ?_⟩⟩
     refine ⟨rfl, by unfold big; omega, some ⟨b, p, none⟩, cap, rfl, g3, .inr ⟨b, p, cs, rfl, .inr rfl, g5.mono fun x c F hx => hx, fun j u hu => ?_⟩⟩
     simp only [World.cell?, hb]
     simpa using q4 j u hu
   ·exact hQ.elim
  ·exact WayOk.fail
 ·exact wConvert_ok hT hh ho hX
end
end Go.Proofs.Ytadhpgecilhgnaa.A

-- YtadhpgecilhgnaaOps19
set_option linter.unusedVariables false
set_option linter.unusedSimpArgs false
namespace Go.Proofs.Ytadhpgecilhgnaa.A
open Go
section
variable {P : Program} {B : Base} {m m' m0 m1 : Md} {H H' H1 : Hp} {w w' : World} {o : Oper} {a : Act} {E : Env} {tab : Nat → Option TI} {Z1 Zf : Nat → Prop}

theorem EvoAt.mapbE {id g : Nat} {k e : Ty} {mm mm0 : List (k.den × e.den)} {ho ho0} (h0 : H id = .live (.mapb g k e mm0 ho0)) (h : H1 id = .live (.mapb g k e mm ho)) (hd : m1.hd id = m.hd id) (hb : ∀ bm, m.hd id = .map (some bm) → w'.heap[bm]? = w.heap[bm]?) : EvoAt m H w m1 H1 w' id :=
 ⟨by rw [h]; exact (fun hh => by cases hh), fun _ _ hh => by rw [h] at hh; (cases hh), fun _ _ hh => by rw [h] at hh; (cases hh), fun _ _ hh => by rw [h] at hh; (cases hh), fun _ _ _ hh => by rw [h] at hh; (cases hh), fun _ _ _ hh => by rw [h] at hh; (cases hh), fun _ _ _ _ hh => by rw [h] at hh; (cases hh), fun _ _ _ _ _ hh => by rw [h] at hh; cases hh; exact ⟨hd, g, mm0, ho0, h0, Nat.le_refl _, fun _ => hb⟩⟩
theorem putH_indep : ∀ {ups : List (Nat × Cell)} {H H' : Hp} {k : Nat}, k ∈ ups.map (·.1) → putH H ups k = putH H' ups k
 | [], _, _, _, h => by cases h
 | p :: ups, H, H', k, h => by
  rw [putH, putH]
  by_cases hk : k ∈ ups.map (·.1)
  ·exact putH_indep hk
  ·rw [putH_notin hk, putH_notin hk]
   simp only [List.map_cons, List.mem_cons] at h
   rcases h with h | h
   ·rw [h, upd_same, upd_same]
   ·exact absurd h hk
theorem memN_all {ups : List (Nat × Cell)} {l : List Nat} (h : (ups.all fun p => memN p.1 l) = true) : ∀ k ∈ ups.map (·.1), k ∈ l := fun k hk => by
 obtain ⟨p, hp, rfl⟩ := List.mem_map.1 hk
 exact memN_iff.1 (List.all_eq_true.1 h p hp)
theorem Change.two (hh : HOk B m H w) {id d : Nat} (hne : id ≠ d) (hL : (H id).Live) {ob : Obj} {c : Cell} {G1 G2 : List Nat} {hdr : Value} (hb : ∀ z, z ∈ G1 ∨ z ∈ G2 → z ∈ m.ft id ∨ ((H d).Live ∧ z ∈ m.ft d)) (hn1 : G1.Nodup) (hn2 : G2.Nodup) (hdis : c.Live → ∀ z ∈ G1, z ∉ G2)
 (r1 : ORep m.Z w ob (m.hd id) G1) (r2 : CRep { Z := m.Z, hd := upd m.hd d hdr, ft := upd (upd m.ft id G1) d G2 } w d c)
 (e1 : EvoAt m H w { Z := m.Z, hd := upd m.hd d hdr, ft := upd (upd m.ft id G1) d G2 } (upd (upd H d c) id (.live ob)) w id) (e2 : H d ≠ .absent → EvoAt m H w { Z := m.Z, hd := upd m.hd d hdr, ft := upd (upd m.ft id G1) d G2 } (upd (upd H d c) id (.live ob)) w d) :
 Change B m H w [id, d] { Z := m.Z, hd := upd m.hd d hdr, ft := upd (upd m.ft id G1) d G2 } (upd (upd H d c) id (.live ob)) w := by
 have hi : upd (upd H d c) id (.live ob) id = .live ob := upd_same _ _ _
 have hd : upd (upd H d c) id (.live ob) d = c := by rw [upd_other _ _ (Ne.symm hne), upd_same]
 have fi : upd (upd m.ft id G1) d G2 id = G1 := by rw [upd_other _ _ hne, upd_same]
 have fd : upd (upd m.ft id G1) d G2 d = G2 := upd_same _ _ _
 have hdi : upd m.hd d hdr id = m.hd id := upd_other _ _ hne
 have blk : ∀ z, z ∈ G1 ∨ z ∈ G2 → ¬ m.Z z ∧ Blk m H [id, d] z := fun z hz => by
  rcases hb z hz with h | ⟨h1, h2⟩
  ·exact ⟨(hh.nz id hL z h).1, id, by simp, hL, h⟩
  ·exact ⟨(hh.nz d h1 z h2).1, d, by simp, h1, h2⟩
 refine { os := rfl, tape := rfl, output := rfl, size := Nat.le_refl _, un := fun i hi' => ?_, blk := fun _ _ _ => rfl, zs := fun _ h => h, zi := fun _ h => .inl h, cr := fun i hi' => ?_, ft := fun i hi' hl z hz => ?_, nd := fun i hi' hl => ?_, sp := fun i hi' j hj' hij hli hlj z hz => ?_, at_ := fun i hi' hab => ?_ }
 ·simp only [List.mem_cons, List.not_mem_nil, or_false, not_or] at hi'
  exact ⟨by rw [upd_other _ _ hi'.1, upd_other _ _ hi'.2], upd_other _ _ hi'.2, by simp only; rw [upd_other _ _ hi'.2, upd_other _ _ hi'.1]⟩
 ·simp only [List.mem_cons, List.not_mem_nil, or_false] at hi'
  rcases hi' with rfl | rfl
  ·rw [hi]
   show ORep m.Z w ob _ _
   simp only
   rw [hdi, fi]; exact r1
  ·rw [hd]; exact r2
 ·simp only [List.mem_cons, List.not_mem_nil, or_false] at hi'
  rcases hi' with rfl | rfl
  ·simp only at hz
   rw [fi] at hz
   exact ⟨(blk z (.inl hz)).1, .inl (blk z (.inl hz)).2⟩
  ·simp only at hz
   rw [fd] at hz
   exact ⟨(blk z (.inr hz)).1, .inl (blk z (.inr hz)).2⟩
 ·simp only [List.mem_cons, List.not_mem_nil, or_false] at hi'
  rcases hi' with rfl | rfl
  ·simp only; rw [fi]; exact hn1
  ·simp only; rw [fd]; exact hn2
 ·simp only [List.mem_cons, List.not_mem_nil, or_false] at hi' hj'
  rcases hi' with rfl | rfl <;> rcases hj' with rfl | rfl
  ·exact absurd rfl hij
  ·simp only at hz ⊢
   rw [fi] at hz
   rw [fd]
   rw [hd] at hlj
   exact hdis hlj z hz
  ·simp only at hz ⊢
   rw [fd] at hz
   rw [fi]
   rw [hd] at hli
   exact fun h => hdis hli z h hz
  ·exact absurd rfl hij
 ·simp only [List.mem_cons, List.not_mem_nil, or_false] at hi'
  rcases hi' with rfl | rfl
  ·exact e1
  ·exact e2 hab

theorem mvl_ok (hh : HOk B m H w) {id g : Nat} {k e : Ty} {key : k.den} {mm : List (k.den × List e.den)} {c : Value} (hx : H id = .live (.mapb g k (.vec e) mm none)) (h : LRep m w H (.mvl id g k key) c) :
 ∃ bm ents clock F G, m.hd id = .map (some bm) ∧ m.ft id = bm :: (m.ft id).tail ∧ (m.ft id).tail.Perm (F ++ G) ∧ w.heap[bm]? = some (.map ents clock) ∧ Born ents.toList clock ∧ MEnt m.Z w k (.vec e) mm (some (key, none)) ents.toList F ∧ Rep m.Z w (.vec e) (mapGet k (.vec e) key mm []) [c] G := by
 obtain ⟨bm, ents, clock, d, kv, p1, p2, p3, p4, p5⟩ := h.2.2 _ _ _ hx
 obtain ⟨b, ents', clock', F', h1, h2, h3, h5, h4⟩ := mapb_cell hh hx
 rw [p1] at h1; cases h1
 rw [p2] at h3; cases h3
 rcases findF_ok (σ := .vec e) p3 p4 0 h4 with ⟨q1, q2, q3, q4⟩ | ⟨m1', y0, m2', e1, en, e2, F1, G, F2, q1, q2, q3, q4, q5, q6, q7, q8, q9, q10, q11, q12⟩
 ·have hc : c = .slice none 0 0 := by
   rcases p5 with ⟨_, p5⟩ | ⟨j, p5⟩
   ·exact p5
   ·rw [q1] at p5; cases p5
  subst hc
  refine ⟨bm, ents, clock, F', [], p1, by rw [h2]; rfl, by rw [h2, List.append_nil]; exact .rfl, p2, h5, ?_, ?_⟩
  ·exact (RepMH.none (q := fun x => eqV k x key) fun x hx => by simpa using List.any_eq_false.1 q2 x hx).2 h4
  ·rw [q3]
   exact ⟨by simp, none, 0, [], [], [], rfl, by simp, rfl, ⟨rfl, rfl⟩, .inl ⟨rfl, rfl, rfl, rfl⟩⟩
 ·have hc : c = en.val := by
   rcases p5 with ⟨p5, _⟩ | ⟨j, p5⟩
   ·rw [q9] at p5; cases p5
   ·rw [q9] at p5
    simp only [Option.some.injEq, Prod.mk.injEq] at p5
    exact p5.2.symm
  subst hc
  obtain ⟨vc, v1, v2⟩ := q7
  have v1 : [en.val] = vc := v1
  subst v1
  refine ⟨bm, ents, clock, F1 ++ F2, G, p1, by rw [h2]; rfl, ?_, p2, h5, ?_, by rw [q11]; exact v2⟩
  ·rw [h2, q3, List.append_assoc]
   exact List.Perm.append_left _ List.perm_append_comm
  ·rw [q1, q2]
   exact RepMH.of (q := fun x => eqV k x key) (ov := none) (p := (key, y0)) (eqV_refl p3 key) (KV.mk1 p3 (by rw [q6]; exact p4)) (fun u hu => by cases hu) q8 q4 q5

theorem wAppendB_ok (hT : TabOk P tab) (hh : HOk B m H w) {ts : Array Nat} {X Y : AV} {x y : Value} (hX : AVRep m w H X x) (hY : AVRep m w H Y y)
 (ex : ∀ v w', (Builtin.append_ ts o.type #[x, y]).run P w = .ok v w' → (execOp a.eval o).run P w = .ok (.value v) w') : WayOk P B m H w o a (wAppendB tab o.dst ts X Y) := by
 unfold wAppendB
 split
 ·rename_i id g k key
  generalize hdd : 400000 + o.dst.getD 99999 = d
  intro Q hQ
  simp only at hQ
  generalize hcore : wAppend tab o.dst ts (.val false [.row d]) Y = core at hQ
  split at hQ
  ·rename_i g' k' e mm hx
   have hx := live_of_only hx
   split at hQ
   ·rename_i key' hg hk
    obtain rfl := Nat.eq_of_beq_eq_true hg
    obtain ⟨he, hk⟩ := castTo_eq hk
    subst he; subst hk
    split at hQ
    ·rename_i hc
     simp only [Bool.and_eq_true, Bool.not_eq_true'] at hc
     obtain ⟨c1, c2⟩ := hc
     have hda : H d = .absent := absent_of c1 (by simp)
     have hidn := memN_false.1 c2
     simp only [List.mem_cons, not_or] at hidn
     obtain ⟨hne, hidn⟩ := hidn
     have hQ := Tst.can_bind hQ
     have hL : (H id).Live := by rw [hx]; trivial
     obtain ⟨bm, ents, clock, F, G, p1, p2, p3, p4, p5, p6, p7⟩ := mvl_ok hh hx hX.one
     have hnd := hh.nd id hL
     rw [p2, List.nodup_cons] at hnd
     have hnd3 := p3.nodup_iff.1 hnd.2
     rw [List.nodup_append] at hnd3
     have mem1 : ∀ z, z ∈ bm :: F ∨ z ∈ G → z ∈ m.ft id := fun z hz => by
      rw [p2]
      rcases hz with hz | hz
      ·rcases List.mem_cons.1 hz with rfl | hz
       ·simp
       ·exact List.mem_cons_of_mem _ (p3.symm.subset (List.mem_append_left _ hz))
      ·exact List.mem_cons_of_mem _ (p3.symm.subset (List.mem_append_right _ hz))
     have ch1 := Change.two (m := m) hh (id := id) (d := d) hne hL (ob := .mapb (g + 1) k (.vec e) mm (some (key, none))) (c := .live (.row e (mapGet k (.vec e) key mm []))) (G1 := bm :: F) (G2 := G) (hdr := x) (fun z hz => .inl (mem1 z hz)) ?_ hnd3.2.1 (fun _ z hz hz2 => ?_)
      ⟨bm, ents, clock, F, p1, rfl, p4, p5, p6⟩ ?_ (EvoAt.mapb_ hx (upd_same _ _ _) (Nat.lt_succ_self _) (upd_other _ _ hne)) (fun h => absurd hda h)
     rotate_left
     ·rw [List.nodup_cons]
      exact ⟨fun h => hnd.1 (p3.symm.subset (List.mem_append_left _ h)), hnd3.1⟩
     ·rcases List.mem_cons.1 hz with rfl | hz
      ·exact hnd.1 (p3.symm.subset (List.mem_append_right _ hz2))
      ·exact hnd3.2.2 z hz z hz2 rfl
     ·simp only [CRep]
      rw [upd_same, upd_same]
      exact p7
     have hh1 := hh.change ch1
     have ev1 := hh.evo ch1
     generalize hm1 : ({ Z := m.Z, hd := upd m.hd d x, ft := upd (upd m.ft id (bm :: F)) d G } : Md) = M1 at hh1 ev1
     generalize hH1 : upd (upd H d (.live (.row e (mapGet k (.vec e) key mm [])))) id (.live (.mapb (g + 1) k (.vec e) mm (some (key, none)))) = H1 at hh1 ev1
     have H1d : H1 d = .live (.row e (mapGet k (.vec e) key mm [])) := by rw [← hH1, upd_other _ _ (Ne.symm hne), upd_same]
     have H1id : H1 id = .live (.mapb (g + 1) k (.vec e) mm (some (key, none))) := by rw [← hH1, upd_same]
     have M1d : M1.hd d = x := by rw [← hm1]; exact upd_same _ _ _
     have call := wAppend_ok (a := a) (o := o) hT hh1 (ts := ts) (X := .val false [.row d]) (Y := Y) (x := x) (y := y) (AVRep.mk1 ⟨by rw [H1d]; simp, fun _ _ _ => M1d.symm, fun _ _ h => by rw [H1d] at h; cases h⟩) (hY.evo ev1) ex
     rw [hcore] at call
     have heq : only (upd (only H ([] ++ id :: d :: (core.rd ++ core.wr))) d (.live (.row e (mapGet k (.vec e) key mm [])))) (core.rd ++ core.wr) = only H1 (core.rd ++ core.wr) := by
      funext n
      unfold only
      cases hn : memN n (core.rd ++ core.wr) with
      | false => rfl
      | true =>
       simp only
       have hnm := memN_iff.1 hn
       have hni : n ≠ id := fun e => hidn (e ▸ hnm)
       by_cases hnd' : n = d
       ·subst hnd'
        rw [upd_same, H1d]
       ·rw [upd_other _ _ hnd', ← hH1, upd_other _ _ hni, upd_other _ _ hnd']
        have : memN n ([] ++ id :: d :: (core.rd ++ core.wr)) = true := memN_iff.2 (by
         rw [List.nil_append]
         exact List.mem_cons_of_mem _ (List.mem_cons_of_mem _ hnm))
        rw [this]
     rw [heq] at hQ
     obtain ⟨v, ups, hQ2, hop⟩ := call _ hQ
     simp only at hQ2
     split at hQ2
     ·rename_i hdk hall
      refine ⟨_, _, hQ2, hop.mono fun v' w' ⟨m2, hh2, ev2, hv2⟩ => ?_⟩
      have hkeys := memN_all hall
      have hidk : id ∉ ups.map (·.1) := fun h => hidn (List.mem_append_right _ (hkeys id h))
      have hdk : d ∈ ups.map (·.1) := memN_iff.1 hdk
      have hfin : putH H (ups ++ [(id, .live (.mapb (g + 1) k (.vec e) mm (some (key, none))))]) = putH H1 ups := by
       rw [putH_append]
       simp only [putH]
       funext n
       by_cases h1 : n = id
       ·subst h1; rw [upd_same, putH_notin hidk, H1id]
       ·rw [upd_other _ _ h1]
        by_cases h2 : n = d
        ·subst h2; exact putH_indep hdk
        ·exact putH_agree (by rw [← hH1, upd_other _ _ h1, upd_other _ _ h2])
      unfold After
      rw [hfin]
      exact ⟨m2, hh2, ev1.trans ev2, hv2⟩
     ·exact hQ2.elim
    ·exact hQ.elim
   ·exact hQ.elim
  ·exact hQ.elim
 ·exact wAppend_ok hT hh hX hY ex
end
end Go.Proofs.Ytadhpgecilhgnaa.A

-- YtadhpgecilhgnaaDem
set_option linter.unusedVariables false
set_option linter.unusedSimpArgs false
namespace Go.Proofs.Ytadhpgecilhgnaa.A
open Go
section
variable {P : Program} {B : Base} {m : Md} {H : Hp} {w w' : World} {o : Oper} {a : Act} {E : Env} {tab : Nat → Option TI}

def DT.Can {α : Type} (Q : α → Prop) : DT α → Prop
 | .ret a => Q a
 | .fail => False
 | .chk p _ t => p ∧ t.Can Q
 | .may p _ t e => e.Can Q ∧ (p → t.Can Q)
 | .each l z k => (l = [] → z.Can Q) ∧ ∀ (i : Nat) x, l[i]? = some x → (k x (l.eraseIdx i)).Can Q
theorem DT.can_of_to {α R : Type} {K : α → Option R} {r : R} : ∀ {t : DT α}, t.to K = some r → t.Can (fun a => K a = some r)
 | .ret a, h => h
 | .fail, h => by cases h
 | .chk p d t, h => by
  unfold DT.to at h
  split at h
  ·rename_i hp; exact ⟨hp, can_of_to h⟩
  ·cases h
 | .may p d t e, h => by
  unfold DT.to at h
  obtain ⟨h1, h2⟩ := agree2_some h
  refine ⟨can_of_to h1, fun hp => ?_⟩
  rw [if_pos hp] at h2
  exact can_of_to h2
 | .each l z k, h => by
  unfold DT.to at h
  split at h
  ·rename_i hl
   have : l = [] := List.eq_nil_of_length_eq_zero hl
   subst this
   exact ⟨fun _ => can_of_to h, fun i x hx => by simp at hx⟩
  ·rename_i hl
   have hne : l ≠ [] := fun e => hl (by rw [e]; rfl)
   exact ⟨fun e => absurd e hne, fun i x hx => can_of_to (agreeL_some hne h i x hx)⟩

def WayDOk (P : Program) (B : Base) (m : Md) (H : Hp) (w : World) (o : Oper) (a : Act) (t : DT (AV × List (Nat × Cell))) : Prop :=
 ∀ Q : AV × List (Nat × Cell) → Prop, t.Can Q → ∃ v ups, Q (v, ups) ∧ OpOk P o a w (After B m H w v ups)

theorem run_eqIn_slice (d : Nat) {t e : TypeId} (h : P.underlying t = some (.slice e)) {ad : Option Addr} {n c : Nat} : (Op.equalIn (d + 1) t (.slice ad n c) (.slice none 0 0)).run P w = .ok ad.isNone w := by
 cases ad <;> simp [Op.equalIn, run_underlying h]
theorem run_eq_slice {t e : TypeId} (h : P.underlying t = some (.slice e)) {ad : Option Addr} {n c : Nat} : (Op.equal t (.slice ad n c) (.slice none 0 0)).run P w = .ok ad.isNone w := run_eqIn_slice 9999 h
theorem nil_exec {t e : TypeId} (h : P.underlying t = some (.slice e)) {x : Operand} {yt : TypeId} {ad : Option Addr} {n c : Nat} (hx : a.eval x = .slice ad n c) :
 (o.op = .binOp .eql t x (.const (.slice none 0 0)) yt → (execOp a.eval o).run P w = .ok (.value (.bool ad.isNone)) w) ∧ (o.op = .binOp .neq t x (.const (.slice none 0 0)) yt → (execOp a.eval o).run P w = .ok (.value (.bool (!ad.isNone))) w) := by
 have hg : ∀ op, (eqGuard op t x (.const (.slice none 0 0)) (a.eval x) (a.eval (.const (.slice none 0 0)))).run P w = .ok () w := fun op => by
  rw [hx]; unfold eqGuard; cases op <;> rfl
 constructor
 ·intro ho
  refine exec_bin ho (hg _) ?_
  rw [hx]
  simp only [binOp, Act.eval, Sem.run_bind, run_eq_slice h, Result.andThen_ok, Sem.run_pure]
 ·intro ho
  refine exec_bin ho (hg _) ?_
  rw [hx]
  simp only [binOp, Act.eval, Sem.run_bind, run_eq_slice h, Result.andThen_ok, Sem.run_pure]
theorem wBinN_ok (hT : TabOk P tab) (hh : HOk B m H w) {op : BinOp} {t : TypeId} {x y : Operand} {yt : TypeId} (ho : o.op = .binOp op t x y yt) {X Y : AV} (hX : AVRep m w H X (a.eval x)) (hY : AVRep m w H Y (a.eval y)) :
 WayOk P B m H w o a (wBinN tab op t X y Y) := by
 unfold wBinN
 split
 ·rename_i e' xs
  have key : ∀ q, slTy tab t = some q → ∃ (e : TypeId) (ad : Option Addr) (n c : Nat), P.underlying t = some (.slice e) ∧ a.eval x = .slice ad n c ∧ ad.isNone = xs.isEmpty := fun q hq => by
   obtain ⟨e, inf, u1, u2, u3, u4, u5⟩ := slTy_ok hT hq
   obtain ⟨hn, s1⟩ : Rep m.Z w (.nsl e') xs [a.eval x] [] := hX.one
   obtain ⟨_, _, ad, cap, s2, s3, s4⟩ := s1
   have s2 : a.eval x = .slice ad xs.length cap := by simpa using s2
   cases xs with
   | nil =>
    have hn := hn rfl
    have hn : a.eval x = .slice none 0 0 := by simpa using hn
    exact ⟨e, none, 0, 0, u1, hn, rfl⟩
   | cons y ys =>
    rcases s4 with s4 | ⟨b, o', c, s5, _⟩
    ·cases s4
    ·subst s5
     exact ⟨e, _, _, _, u1, s2, rfl⟩
  split
  ·rename_i q hq
   obtain ⟨e, ad, n, c, u1, u2, u3⟩ := key q hq
   have r := (nil_exec (o := o) (w := w) (yt := yt) u1 u2).1 ho
   rw [u3] at r
   exact WayOk.one hh r ⟨rfl, rfl⟩
  ·rename_i q hq
   obtain ⟨e, ad, n, c, u1, u2, u3⟩ := key q hq
   have r := (nil_exec (o := o) (w := w) (yt := yt) u1 u2).2 ho
   rw [u3] at r
   exact WayOk.one hh r ⟨rfl, rfl⟩
  ·exact WayOk.fail
 ·exact wBinB_ok hT hh ho hX hY
theorem nilWay_ok (hT : TabOk P tab) (hh : HOk B m H w) {t : Nat} {x : Operand} {eq : Bool} {yt : TypeId} (ho : (eq = true ∧ o.op = .binOp .eql t x (.const (.slice none 0 0)) yt) ∨ (eq = false ∧ o.op = .binOp .neq t x (.const (.slice none 0 0)) yt)) {X : AV} (hX : AVRep m w H X (a.eval x))
 {D : DT (AV × List (Nat × Cell))} (h : nilWay tab t H eq X = some D) : WayDOk P B m H w o a D := by
 have fin : ∀ {e : TypeId} (_ : P.underlying t = some (.slice e)) {ad : Option Addr} {n c : Nat}, a.eval x = .slice ad n c → OpOk P o a w (After B m H w (bLV (if ad.isNone then eq else !eq)) []) := fun {e} u {ad n c} hx => by
  obtain ⟨k1, k2⟩ := nil_exec (o := o) (w := w) (yt := yt) u hx
  rcases ho with ⟨rfl, ho⟩ | ⟨rfl, ho⟩
  ·refine OpOk.value (k1 ho) (After.same hh ?_)
   cases ad <;> exact vBool
  ·refine OpOk.value (k2 ho) (After.same hh ?_)
   cases ad <;> exact vBool
 unfold nilWay at h
 split at h
 ·split at h
  ·rename_i q hq
   cases h
   obtain ⟨e, inf, u1, u2, u3, u4, u5⟩ := slTy_ok hT hq
   intro Q hQ
   have e1 : a.eval x = .slice none 0 0 := hX.one
   exact ⟨_, _, hQ, fin u1 e1⟩
  ·cases h
 ·rename_i e' xs
  split at h
  ·rename_i q hq
   cases h
   obtain ⟨e, inf, u1, u2, u3, u4, u5⟩ := slTy_ok hT hq
   intro Q hQ
   obtain ⟨hn, s1⟩ : Rep m.Z w (.nsl e') xs [a.eval x] [] := hX.one
   obtain ⟨_, _, ad, cap, s2, s3, s4⟩ := s1
   have s2 : a.eval x = .slice ad xs.length cap := by simpa using s2
   have f := fin u1 s2
   refine ⟨_, _, hQ, ?_⟩
   cases xs with
   | nil =>
    have hn := hn rfl
    have hn : a.eval x = .slice none 0 0 := by simpa using hn
    have f := fin u1 hn
    cases eq <;> simpa using f
   | cons y ys =>
    rcases s4 with s4 | ⟨b, o', c, s5, _⟩
    ·cases s4
    ·subst s5
     cases eq <;> simpa using f
  ·cases h
 ·split at h
  ·rename_i q e' xs hq hx
   cases h
   obtain ⟨e, inf, u1, u2, u3, u4, u5⟩ := slTy_ok hT hq
   obtain ⟨s1, ad, cap, s2, s3, s4⟩ := slRead_ok hh hx hX.one
   intro Q hQ
   obtain ⟨h1, h2⟩ := hQ
   have f := fin u1 s2
   cases ad with
   | none =>
    rcases s4 with s4 | ⟨b, o', c, F, s5, _⟩
    ·exact ⟨_, _, h2 (by rw [s4]; rfl), by simpa using f⟩
    ·cases s5
   | some ad => exact ⟨_, _, h1, by simpa using f⟩
  ·cases h
 ·cases h
theorem nextWay_ok (hh : HOk B m H w) {x : Operand} (ho : o.op = .next x false) {X : AV} (hX : AVRep m w H X (a.eval x)) {D : DT (AV × List (Nat × Cell))} (h : nextWay H X = some D) : WayDOk P B m H w o a D := by
 unfold nextWay at h
 split at h
 ·rename_i id
  split at h
  ·rename_i k e cur r hx
   cases h
   intro Q hQ
   obtain ⟨Q1, Q2⟩ := hQ
   have hc := hh.cr id
   rw [hx] at hc
   obtain ⟨b, bm, es, cl, seen, h1, h2, h3, h4, h5, h6, h7, h8⟩ := hc
   have hL : (H id).Live := by rw [hx]; trivial
   have hbz := hh.nz id hL b (by rw [h2]; simp)
   have hne : bm ≠ b := fun e => hbz.1 (e ▸ h4)
   have hv := (hX.one.2 _ _ _ _ hx).trans h1
   have ex : ∀ {v : Value} {w1 : World}, (Instr.next (.pointer (some ⟨b, 0, none⟩)) false o.type).run P w = .ok v w1 → (execOp a.eval o).run P w = .ok (.value v) w1 := fun h => by
    simp only [execOp, ho, hv, Sem.run_bind, h, Result.andThen_ok, Sem.run_pure]
   rcases run_next_left (P := P) o.type h3 h5 h6.2 with ⟨g1, g2⟩ | ⟨j, en, w1, g1, a1, a2, a3, a4, g2⟩
   ·have hr : r = [] := by
     have h7 : RepM _ _ _ _ r (leftL es.toList seen) := h7
     rw [g1] at h7
     exact h7.nilOf
    exact ⟨_, _, Q1 hr, OpOk.value (ex g2) (After.same hh ⟨[_], rfl, ⟨[_], rfl, ⟨rfl, rfl⟩, trivial⟩, trivial⟩)⟩
   ·obtain ⟨p, p1, p2, p3⟩ := RepM.at j en h7 g1
    have size : (w1.heap.setIfInBounds b (.mapIter (some bm) cl (seen.push en.born) cl)).size = w.heap.size := by rw [Array.size_setIfInBounds, a1]
    have old : ∀ z, z ≠ b → (w1.heap.setIfInBounds b (.mapIter (some bm) cl (seen.push en.born) cl))[z]? = w.heap[z]? := fun z hz => by
     rw [Array.getElem?_setIfInBounds_ne (Ne.symm hz), a1]
    have new : (w1.heap.setIfInBounds b (.mapIter (some bm) cl (seen.push en.born) cl))[b]? = some (.mapIter (some bm) cl (seen.push en.born) cl) := by
     rw [Array.getElem?_setIfInBounds_self_of_lt (by rw [a1]; exact hbz.2.1)]
    have hput := putH_cons H id (.live (.iter k e (some p) (r.eraseIdx j))) [] (by simp)
    have fr : ∀ {τ : Ty} {x : τ.den} {c : List Value}, Rep m.Z w τ x c [] → Rep m.Z { w1 with heap := w1.heap.setIfInBounds b (.mapIter (some bm) cl (seen.push en.born) cl) } τ x c [] := fun hr => hr.frame (fun z hz => old z fun ez => hbz.1 (ez ▸ hz)) (fun _ h => h) (by simp)
    have ch : Change B m H w (id :: []) (m.set id (m.hd id) (m.ft id)) (putH H ((id, .live (.iter k e (some p) (r.eraseIdx j))) :: deads [])) { w1 with heap := w1.heap.setIfInBounds b (.mapIter (some bm) cl (seen.push en.born) cl) } := by
     refine Change.one (w' := { w1 with heap := w1.heap.setIfInBounds b (.mapIter (some bm) cl (seen.push en.born) cl) }) (ob := .iter k e (some p) (r.eraseIdx j)) hh (by simp) (by simp) a2 a3 a4 (by rw [size]; exact Nat.le_refl _) (fun z hz hnB => old z fun ez => hnB ⟨id, by simp, hL, by rw [ez, h2]; simp⟩) ?_ (fun z hz => ⟨(hh.nz id hL z hz).1, .inl ⟨id, by simp, hL, hz⟩⟩) (hh.nd id hL) (fun _ => EvoAt.itr_ hx hput (by simp only [Md.set]; rw [upd_same]))
     refine ⟨b, bm, es, cl, seen.push en.born, by rw [h1], h2, new, h4, by rw [old bm hne]; exact h5, h6, ?_, fun p' hp' => ?_⟩
     ·show RepM _ _ _ _ _ (leftL es.toList (seen.push en.born))
      rw [left_push h6.1 g1]
      exact p3.mono (fun _ _ hh => fr hh) (fun _ _ hh => fr hh)
     ·cases hp'
      refine ⟨en, (List.mem_filter.1 (List.mem_of_getElem? g1)).1, by simp, p2.mono (fun _ _ hh => fr hh) (fun _ _ hh => fr hh)⟩
    refine ⟨_, _, Q2 j p p1, OpOk.value (ex g2) ⟨_, hh.change ch, hh.evo ch, ?_⟩⟩
    obtain ⟨q1, q2⟩ := pair_of (H := H) p2
    have hp : AVRep m w H (.tup [(false, [.v .bool true]), (!k.one, flat k p.1), (!e.one, flat e p.2)]) (.tuple #[.bool true, en.key, en.val]) := ⟨[_, _, _], rfl, ⟨[_], rfl, ⟨rfl, rfl⟩, trivial⟩, q1, q2, trivial⟩
    exact hp.evo (hh.evo ch)
  ·cases h
 ·cases h
end
end Go.Proofs.Ytadhpgecilhgnaa.A

-- YtadhpgecilhgnaaCtl1
set_option linter.unusedVariables false
set_option linter.unusedSimpArgs false
namespace Go.Proofs.Ytadhpgecilhgnaa.A
open Go

theorem Tst.can_out {α : Type} {Q : α → Prop} : ∀ {t : Tst α}, t.Can Q → ∃ a, t.Can (fun x => x = a) ∧ Q a
 | .ret a, h => ⟨a, rfl, h⟩
 | .fail, h => h.elim
 | .chk p d t, h => let ⟨a, h1, h2⟩ := can_out h.2; ⟨a, ⟨h.1, h1⟩, h2⟩
 | .br b t e, .inl h => let ⟨a, h1, h2⟩ := can_out h.2; ⟨a, .inl ⟨h.1, h1⟩, h2⟩
 | .br b t e, .inr h => let ⟨a, h1, h2⟩ := can_out h.2; ⟨a, .inr ⟨h.1, h1⟩, h2⟩
 | .opt o k, ⟨b, h1, h2⟩ => let ⟨a, h3, h4⟩ := can_out h2; ⟨a, ⟨b, h1, h3⟩, h4⟩
theorem Tst.Can.out {α : Type} {Q : α → Prop} {t : Tst α} {a : α} (h : t.Can (fun x => x = a)) (hq : Q a) : t.Can Q := h.mono fun _ e => e ▸ hq
theorem Tst.bind_out {α β : Type} {f : α → Tst β} {Q : β → Prop} : ∀ {t : Tst α} {a : α}, t.Can (fun x => x = a) → (f a).Can Q → (t.bind f).Can Q
 | .ret a, _, h, hq => by cases h; exact hq
 | .fail, _, h, _ => h.elim
 | .chk p d t, _, h, hq => ⟨h.1, bind_out h.2 hq⟩
 | .br b t e, _, .inl h, hq => .inl ⟨h.1, bind_out h.2 hq⟩
 | .br b t e, _, .inr h, hq => .inr ⟨h.1, bind_out h.2 hq⟩
 | .opt o k, _, ⟨b, h1, h2⟩, hq => ⟨b, h1, bind_out h2 hq⟩

def SE (B : Base) (N : Nat) (E : Env) (H : Hp) (a : Act) (w : World) : Prop := ∃ m, St B m E H a w ∧ a.tmps.size = N ∧ ∀ i ∈ B.fx, a.tmps.getD i undef = B.fv i
def operOkB (N : Nat) (fx : List Nat) (o : Oper) : Bool := o.op.operands.toList.all opndOkB && (match o.dst with | some d => Nat.ble (d + 1) N && !(memN d fx) | none => true)
structure WaysOk (P : Program) (tab : Nat → Option TI) (T : Nat → Option FunE) : Prop where
 w : ∀ (B : Base) (m : Md) (H : Hp) (w : World) (a : Act) (E : Env) (o : Oper), o.op.operands.toList.all opndOkB = true → St B m E H a w → WayOk P B m H w o a (way tab T E o)
 d : ∀ (B : Base) (m : Md) (H : Hp) (w : World) (a : Act) (E : Env) (o : Oper) (t : DT (AV × List (Nat × Cell))), o.op.operands.toList.all opndOkB = true → St B m E H a w → wayD tab E H o = some t → WayDOk P B m H w o a t

section
variable {P : Program} {B : Base} {m m' : Md} {H H' : Hp} {w w' : World} {o : Oper} {a : Act} {E : Env} {tab : Nat → Option TI} {T : Nat → Option FunE} {N : Nat}

theorem Act.getD_put {dst : Option Nat} {v : Value} {t : Nat} : (a.put dst v).tmps.getD t undef = if dst = some t ∧ t < a.tmps.size then v else a.tmps.getD t undef := by
 cases dst with
 | none => simp [Act.put]
 | some d =>
  by_cases h : d = t
  ·subst h
   by_cases hs : d < a.tmps.size
   ·simp [Act.put, hs]
   ·simp [Act.put, hs]
  ·simp [Act.put, h, Array.getElem?_setIfInBounds_ne h]
theorem Act.size_put {dst : Option Nat} {v : Value} : (a.put dst v).tmps.size = a.tmps.size := by cases dst <;> simp [Act.put]
theorem Act.defers_put {dst : Option Nat} {v : Value} : (a.put dst v).defers = a.defers := by cases dst <;> rfl

theorem St.put (s : St B m E H a w) {dst : Option Nat} (hd : ∀ d, dst = some d → d < a.tmps.size) {v : AV} {v' : Value} (hh : HOk B m' H' w') (ev : Evo m H w m' H' w') (hv : AVRep m' w' H' v v') :
 St B m' (putE E dst v) H' (a.put dst v') w' := by
 refine ⟨hh, fun t => ?_, by rw [Act.defers_put]; exact s.d⟩
 rw [Act.getD_put]
 cases dst with
 | none => simpa [putE] using (s.t t).evo ev
 | some d =>
  by_cases h : d = t
  ·subst h
   simp only [putE, true_and]
   rw [upd_same, if_pos (hd d rfl)]
   exact hv
  ·simp only [putE, Option.some.injEq, h, false_and, if_false]
   rw [upd_other _ _ (Ne.symm h)]
   exact (s.t t).evo ev

theorem dst_ok (ho : operOkB N B.fx o = true) : (∀ d, o.dst = some d → d < N) ∧ ∀ i ∈ B.fx, o.dst ≠ some i := by
 unfold operOkB at ho
 rw [Bool.and_eq_true] at ho
 have h := ho.2
 cases hd : o.dst with
 | none => exact ⟨fun _ h => (by cases h), fun _ _ h => (by cases h)⟩
 | some d =>
  rw [hd] at h
  simp only [Bool.and_eq_true, Bool.not_eq_true'] at h
  exact ⟨fun d' hd' => by cases hd'; exact Nat.le_of_ble_eq_true h.1, fun i hi he => by cases he; exact memN_false.1 h.2 hi⟩
theorem fx_put (hf : ∀ i ∈ B.fx, a.tmps.getD i undef = B.fv i) (hd : ∀ i ∈ B.fx, o.dst ≠ some i) {v : Value} : ∀ i ∈ B.fx, (a.put o.dst v).tmps.getD i undef = B.fv i := fun i hi => by
 rw [Act.getD_put, if_neg (fun h => hd i hi h.1)]
 exact hf i hi
theorem stepT_ok (hW : WaysOk P tab T) (s : SE B N E H a w) (ho : operOkB N B.fx o = true) {Q : Env × Hp → Prop} (h : (stepT tab T E H o).Can Q) (Qx : Exit → Act → World → Prop) :
 ∃ E' H', Q (E', H') ∧ ∀ K : Act → World → Prop, (∀ a' w', SE B N E' H' a' w' → K a' w') → o.wp P a w K Qx := by
 obtain ⟨m, s, hN, hf⟩ := s
 have hd := dst_ok ho
 unfold operOkB at ho
 rw [Bool.and_eq_true] at ho
 obtain ⟨v, ups, h1, h2⟩ := hW.w B m H w a E o ho.1 s _ (Tst.can_bind h)
 split at h1
 ·exact ⟨_, _, h1, fun K hK => h2.wp fun v' w' ⟨m', k1, k2, k3⟩ => hK _ _ ⟨m', s.put (fun d h => by rw [hN]; exact hd.1 d h) k1 k2 k3, by rw [Act.size_put]; exact hN, fx_put hf hd.2⟩⟩
 ·exact h1.elim

theorem upd_self (f : Env) (s : Nat) (x : AV) (h : f s = x) : upd f s x = f := by
 funext k
 by_cases hk : k = s
 ·subst hk; rw [upd_same, h]
 ·rw [upd_other _ _ hk]

def Gd.on : Gd → Bool
 | .yes => true
 | .ask _ b want => b == want
 | _ => false
def Gd.ok : Gd → Bool
 | .bad => false
 | _ => true
theorem guard_ask {ops : Array Oper} {s : Nat} {b want : Bool} (h : guardOf ops E o = .ask s b want) : E s = bLV b := by
 unfold guardOf at h
 split at h
 ·cases h
 ·split at h
  ·split at h
   ·split at h
    ·cases h
    ·rename_i e
     cases h
     exact e
    ·cases h
   ·cases h
  ·cases h
theorem stepG_out {ops : Array Oper} {Q : Env × Hp → Prop} (h : (stepG tab T ops E H o).Can Q) : (guardOf ops E o).ok = true ∧ if (guardOf ops E o).on = true then (stepT tab T E H o).Can Q else Q (putE E o.dst .undef, H) := by
 unfold stepG at h
 generalize hg : guardOf ops E o = g at h ⊢
 cases g with
 | yes => exact ⟨rfl, by simpa [Gd.on, Tst.Can] using h⟩
 | no => exact ⟨rfl, by simpa [Gd.on, Tst.Can] using h⟩
 | bad => exact h.elim
 | ask s b want =>
  have hs := guard_ask hg
  refine ⟨rfl, ?_⟩
  cases want with
  | true =>
   simp only at h
   rcases h with ⟨hb, h⟩ | ⟨hb, h⟩ <;> subst hb <;> rw [upd_self _ _ _ hs] at h <;> simpa [Gd.on, Tst.Can] using h
  | false =>
   simp only at h
   rcases h with ⟨hb, h⟩ | ⟨hb, h⟩ <;> subst hb <;> rw [upd_self _ _ _ hs] at h <;> simpa [Gd.on, Tst.Can] using h
theorem stepG_of {ops : Array Oper} {Q : Env × Hp → Prop} (hk : (guardOf ops E o).ok = true) (h : if (guardOf ops E o).on = true then (stepT tab T E H o).Can Q else Q (putE E o.dst .undef, H)) : (stepG tab T ops E H o).Can Q := by
 unfold stepG
 generalize hg : guardOf ops E o = g at h hk ⊢
 cases g with
 | yes => simpa [Gd.on, Tst.Can] using h
 | no => simpa [Gd.on, Tst.Can] using h
 | bad => cases hk
 | ask s b want =>
  have hs := guard_ask hg
  cases want <;> cases b <;> simp only [Gd.on] at h <;> simp only
  ·exact .inr ⟨rfl, by rw [upd_self _ _ _ hs]; simpa [Tst.Can] using h⟩
  ·exact .inl ⟨rfl, by rw [upd_self _ _ _ hs]; simpa [Tst.Can] using h⟩
  ·exact .inr ⟨rfl, by rw [upd_self _ _ _ hs]; simpa [Tst.Can] using h⟩
  ·exact .inl ⟨rfl, by rw [upd_self _ _ _ hs]; simpa [Tst.Can] using h⟩
theorem wanted_ok {ops : Array Oper} (s : St B m E H a w) (hk : (guardOf ops E o).ok = true) : Region.wanted o (yielded ops a.tmps) = (guardOf ops E o).on := by
 unfold Region.wanted
 unfold guardOf at hk ⊢
 cases hg : o.guard with
 | none => rfl
 | some p =>
  obtain ⟨j, want⟩ := p
  rw [hg] at hk
  simp only at hk ⊢
  unfold yielded
  cases hj : ops[j]? with
  | none => rw [hj] at hk; cases hk
  | some oj =>
   rw [hj] at hk
   simp only [Option.bind_some] at hk ⊢
   cases hd : oj.dst with
   | none => rw [hd] at hk; cases hk
   | some s' =>
    rw [hd] at hk
    simp only [Option.bind_some] at hk ⊢
    have ht := s.t s'
    split at hk
    ·rename_i e
     rw [e] at ht
     replace ht : a.tmps.getD s' undef = undef := ht
     rw [Array.getD_eq_getD_getElem?] at ht
     cases hx : a.tmps[s']? with
     | none => simp [Gd.on, e]
     | some u =>
      rw [hx] at ht
      simp only [Option.getD_some] at ht
      subst ht
      simp [undef, Gd.on, e]
    ·rename_i b e
     rw [e] at ht
     have ht := ht.one.bool
     rw [Array.getD_eq_getD_getElem?] at ht
     cases hx : a.tmps[s']? with
     | none => rw [hx] at ht; simp [undef] at ht
     | some u =>
      rw [hx] at ht
      simp only [Option.getD_some] at ht
      subst ht
      cases b <;> cases want <;> simp [Gd.on, e]
    ·cases hk
theorem undef_rep : AVRep m w H .undef undef := rfl

theorem stepG_ok (hW : WaysOk P tab T) {ops : Array Oper} (s : SE B N E H a w) (ho : operOkB N B.fx o = true) {Q : Env × Hp → Prop} (h : (stepG tab T ops E H o).Can Q) (Qx : Exit → Act → World → Prop) :
 ∃ E' H', Q (E', H') ∧ ∀ K : Act → World → Prop, (∀ a' w', SE B N E' H' a' w' → K a' w') →
  if Region.wanted o (yielded ops a.tmps) then o.wp P a w K Qx ∨ (o.asks P a w ∧ LetsOut Qx) else K (a.put o.dst undef) w := by
 obtain ⟨hk, h⟩ := stepG_out h
 have hs := s
 obtain ⟨m, st, hN, hf⟩ := s
 have hd := dst_ok ho
 rw [wanted_ok st hk]
 split at h
 ·rename_i hon
  obtain ⟨E', H', h1, h2⟩ := stepT_ok hW hs ho h Qx
  exact ⟨E', H', h1, fun K hK => by rw [if_pos hon]; exact .inl (h2 K hK)⟩
 ·rename_i hon
  refine ⟨_, _, h, fun K hK => ?_⟩
  rw [if_neg hon]
  exact hK _ _ ⟨m, st.put (fun d h => by rw [hN]; exact hd.1 d h) st.h Evo.refl undef_rep, by rw [Act.size_put]; exact hN, fx_put hf hd.2⟩

variable {R : Type} {r : R}
theorem runOps_ok (hW : WaysOk P tab T) {ops : Array Oper} {K : Env → Hp → Option R} {Q : Exit → Act → World → Prop} (hQ : ∀ E H a w, SE B N E H a w → K E H = some r → Q .normal a w) : ∀ (l : List Oper) (k : Nat) (E : Env) (H : Hp) (a : Act) (w : World),
 (∀ j, j < l.length → l[j]? = ops[k + j]?) → (∀ o ∈ l, operOkB N B.fx o = true) → SE B N E H a w → runOps tab T ops l E H K = some r → wpOps P ops Q (List.range' k l.length) a w
 | [], _, _, _, _, _, _, _, s, h => hQ _ _ _ _ s h
 | o :: l, k, E, H, a, w, hl, ho, s, h => by
  have h0 : ops[k]? = some o := by simpa using (hl 0 (by simp)).symm
  rw [List.length_cons, List.range'_succ]
  simp only [wpOps, h0]
  unfold runOps at h
  split at h
  case h_2 t ht =>
   have hs := s
   obtain ⟨m, st, hN, hf⟩ := s
   have hd := dst_ok (ho o (by simp))
   have hop := ho o (by simp)
   unfold operOkB at hop
   rw [Bool.and_eq_true] at hop
   obtain ⟨v, ups, h1, h2⟩ := hW.d B m H w a E o t hop.1 st ht _ (DT.can_of_to h)
   have hg : o.guard = none := by
    unfold wayD at ht
    split at ht
    ·cases ht
    ·assumption
   have hwant : Region.wanted o (yielded ops a.tmps) = true := by unfold Region.wanted; rw [hg]
   rw [if_pos hwant]
   refine .inl (h2.wp fun v' w' ⟨m', k1, k2, k3⟩ => ?_)
   have s' : SE B N (putE E o.dst v) (putH H ups) (a.put o.dst v') w' := ⟨m', st.put (fun d h => by rw [hN]; exact hd.1 d h) k1 k2 k3, by rw [Act.size_put]; exact hN, fx_put hf hd.2⟩
   exact runOps_ok hW hQ l (k + 1) _ _ _ w' (fun j hj => by have := hl (j + 1) (by simp; omega); rw [List.getElem?_cons_succ] at this; rw [this]; congr 1; omega) (fun o' h' => ho o' (by simp [h'])) s' h1
  obtain ⟨E', H', h1, h2⟩ := stepG_ok hW s (ho o (by simp)) (Tst.can_of_to h) Q
  exact h2 _ fun a' w' s' => runOps_ok hW hQ l (k + 1) E' H' a' w' (fun j hj => by have := hl (j + 1) (by simp; omega); rw [List.getElem?_cons_succ] at this; rw [this]; congr 1; omega) (fun o' h' => ho o' (by simp [h'])) s' h1
end
end Go.Proofs.Ytadhpgecilhgnaa.A

-- YtadhpgecilhgnaaCtl2
set_option linter.unusedVariables false
set_option linter.unusedSimpArgs false
namespace Go.Proofs.Ytadhpgecilhgnaa.A
open Go
section
variable {P : Program} {B : Base} {m m' : Md} {H H' : Hp} {w w' : World} {o : Oper} {a : Act} {E : Env} {tab : Nat → Option TI} {T : Nat → Option FunE} {N : Nat} {ops : Array Oper} {md : Region.Mode}

theorem evalO_put {E : Env} {dst : Option Nat} {v : AV} {x : Operand} (h : ∀ d, dst = some d → x ≠ .tmp d) : evalO (putE E dst v) x = evalO E x := by
 cases dst with
 | none => rfl
 | some d =>
  cases x with
  | tmp t => exact upd_other _ _ (fun e => h d rfl (e ▸ rfl))
  | _ => rfl
theorem way_congr {E E' : Env} (o : Oper) (h : ∀ x ∈ o.op.operands, evalO E x = evalO E' x) : way tab T E o = way tab T E' o := by
 obtain ⟨dst, op, type, pos, after, guard⟩ := o
 have pairs : ∀ ps : Array (Nat × Operand), (∀ x ∈ ps.map (·.2), evalO E x = evalO E' x) → (ps.toList.map fun p => (p.1, evalO E p.2)) = ps.toList.map fun p => (p.1, evalO E' p.2) := fun ps hp =>
  List.map_congr_left fun p hm => by rw [hp p.2 (Array.mem_map.2 ⟨p, by simpa using hm, rfl⟩)]
 cases op <;> simp only [Op.operands] at h <;> simp only [way]
 case build t ps => rw [pairs ps fun x hx => h x (by simpa using hx)]
 case buildSlice t n ps => rw [pairs ps fun x hx => h x (by simpa using hx)]
 case call c =>
  have hargs : c.args.toList.map (evalO E) = c.args.toList.map (evalO E') := List.map_congr_left fun x hx => h x (by simp [Call.operands]; exact .inr (by simpa using hx))
  rw [hargs]
  cases hc : c.callee with
  | value f => have hf := h f (by simp [Call.operands, hc]); simp only [hf]
  | invoke r m => rfl
  | builtin b => rfl
 case slice t x lo hi mx => cases lo <;> cases hi <;> cases mx <;> simp_all
 case makeMap t r => cases r <;> simp_all
 all_goals (first | rfl | (simp_all; done))
theorem way_put {dst : Option Nat} {v : AV} (h : ∀ d, dst = some d → d ∉ o.looksAt ops) : way tab T (putE E dst v) o = way tab T E o :=
 way_congr o fun x hx => evalO_put fun d hd hxd => h d hd (by
  subst hxd
  exact List.mem_append_left _ (List.mem_filterMap.2 ⟨.tmp d, by simpa using hx, rfl⟩))
theorem guard_put {dst : Option Nat} {v : AV} (h : ∀ d, dst = some d → d ∉ o.looksAt ops) : guardOf ops (putE E dst v) o = guardOf ops E o := by
 cases dst with
 | none => rfl
 | some d =>
  have hd := h d rfl
  unfold guardOf
  cases hg : o.guard with
  | none => rfl
  | some p =>
   obtain ⟨j, want⟩ := p
   simp only
   cases hj : ops[j]? with
   | none => rfl
   | some oj =>
    simp only
    cases hs : oj.dst with
    | none => rfl
    | some s =>
     have : s ≠ d := fun e => hd (by subst e; exact List.mem_append_right _ (by simp [hg, hj, hs]))
     simp only [putE]
     rw [upd_other _ _ this]

def StepTo (tab : Nat → Option TI) (T : Nat → Option FunE) (ops : Array Oper) (E : Env) (H : Hp) (o : Oper) (v : AV) (ups : List (Nat × Cell)) : Prop :=
 (guardOf ops E o).ok = true ∧ if (guardOf ops E o).on = true then ((way tab T E o).run (only H ((way tab T E o).rd ++ (way tab T E o).wr))).Can (fun x => x = (v, ups)) ∧ (∀ p ∈ ups, p.1 ∈ (way tab T E o).wr) else v = .undef ∧ ups = []
theorem StepTo.of {Q : Env × Hp → Prop} (h : (stepG tab T ops E H o).Can Q) : ∃ v ups, StepTo tab T ops E H o v ups ∧ Q (putE E o.dst v, putH H ups) := by
 obtain ⟨hk, h⟩ := stepG_out h
 unfold StepTo
 by_cases hon : (guardOf ops E o).on = true
 ·rw [if_pos hon] at h
  obtain ⟨r, h1, h2⟩ := Tst.can_out (Tst.can_bind h)
  obtain ⟨v, ups⟩ := r
  simp only at h2
  split at h2
  ·rename_i hall
   refine ⟨v, ups, ⟨hk, ?_⟩, h2⟩
   rw [if_pos hon]
   exact ⟨h1, fun p hp => memN_iff.1 (List.all_eq_true.1 hall p hp)⟩
  ·exact h2.elim
 ·rw [if_neg hon] at h
  exact ⟨.undef, [], ⟨hk, by rw [if_neg hon]; exact ⟨rfl, rfl⟩⟩, h⟩
theorem StepTo.to {Q : Env × Hp → Prop} {v : AV} {ups : List (Nat × Cell)} (h : StepTo tab T ops E H o v ups) (hq : Q (putE E o.dst v, putH H ups)) : (stepG tab T ops E H o).Can Q := by
 obtain ⟨hk, h⟩ := h
 refine stepG_of hk ?_
 split
 ·rename_i hon
  rw [if_pos hon] at h
  refine Tst.bind_out h.1 ?_
  have : (ups.all fun p => memN p.1 (way tab T E o).wr) = true := List.all_eq_true.2 fun p hp => memN_iff.2 (h.2 p hp)
  simp only [this]
  exact hq
 ·rename_i hon
  rw [if_neg hon] at h
  obtain ⟨rfl, rfl⟩ := h
  exact hq
theorem StepTo.keys {v : AV} {ups : List (Nat × Cell)} (h : StepTo tab T ops E H o v ups) : ∀ k ∈ ups.map (·.1), k ∈ (fpOf tab T ops E o).2 := by
 obtain ⟨_, h⟩ := h
 split at h
 ·intro k hk
  obtain ⟨p, hp, rfl⟩ := List.mem_map.1 hk
  exact h.2 p hp
 ·rw [h.2]; simp

theorem disj_iff {a b : List Nat} : disj a b = true ↔ ∀ x ∈ a, x ∉ b := by
 unfold disj
 rw [List.all_eq_true]
 refine forall_congr' fun x => forall_congr' fun _ => ?_
 rw [Bool.not_eq_true', memN_false]
theorem apartFp_iff {a b : Fp} : apartFp a b = true ↔ (∀ x ∈ a.2, x ∉ b.1 ++ b.2) ∧ (∀ x ∈ b.2, x ∉ a.1 ++ a.2) := by
 unfold apartFp
 rw [Bool.and_eq_true, disj_iff, disj_iff]
theorem apartFp_comm {a b : Fp} (h : apartFp a b = true) : apartFp b a = true := by rw [apartFp_iff] at *; exact ⟨h.2, h.1⟩
theorem only_put {ups : List (Nat × Cell)} {L : List Nat} (h : ∀ k ∈ ups.map (·.1), k ∉ L) : only (putH H ups) L = only H L := by
 funext k
 unfold only
 split
 ·rename_i hk
  exact putH_notin fun hkk => h k hkk (memN_iff.1 hk)
 ·rfl
theorem StepTo.swap {x y : Oper} {vx vy : AV} {ux uy : List (Nat × Cell)} (hap : x.apart ops y = true) (hfp : apartFp (fpOf tab T ops E x) (fpOf tab T ops E y) = true) (hx : StepTo tab T ops E H x vx ux)
 (hy : StepTo tab T ops (putE E x.dst vx) (putH H ux) y vy uy) : StepTo tab T ops E H y vy uy ∧ StepTo tab T ops (putE E y.dst vy) (putH H uy) x vx ux := by
 obtain ⟨h1, h2, h3⟩ := Oper.apart_spec hap
 obtain ⟨f1, f2⟩ := apartFp_iff.1 hfp
 have hy' : StepTo tab T ops E H y vy uy := by
  have kx := hx.keys
  unfold StepTo at hy ⊢
  rw [guard_put h1, way_put h1, only_put (L := (way tab T E y).rd ++ (way tab T E y).wr) fun k hk => f1 k (kx k hk)] at hy
  exact hy
 refine ⟨hy', ?_⟩
 have ky := hy'.keys
 unfold StepTo at hx ⊢
 rw [guard_put h3, way_put h3, only_put (L := (way tab T E x).rd ++ (way tab T E x).wr) fun k hk => f2 k (ky k hk)]
 exact hx
theorem putE_comm {E : Env} {x y : Option Nat} {u v : AV} (h : ∀ d, x = some d → y ≠ some d) : putE (putE E x u) y v = putE (putE E y v) x u := by
 cases x with
 | none => rfl
 | some d =>
  cases y with
  | none => rfl
  | some e => exact upd_comm _ _ _ (fun he => h d rfl (he ▸ rfl))
theorem putH_swap : ∀ {u v : List (Nat × Cell)} {H : Hp}, (∀ k ∈ u.map (·.1), k ∉ v.map (·.1)) → putH (putH H u) v = putH (putH H v) u
 | [], _, _, _ => rfl
 | p :: u, v, H, h => by
  rw [putH, putH_swap (fun k hk => h k (by simp at hk ⊢; exact .inr hk))]
  rw [putH_comm (h p.1 (by simp)), putH]

def Closed (md : Region.Mode) (ops : Array Oper) (listed : Array Bool) : Prop := ∀ (k : Nat) (o : Oper), ops[k]? = some o → listed.getD k false = true → ∀ e ∈ o.after, Region.binds md e = true → listed.getD e.on false = true
def Good (md : Region.Mode) (ops : Array Oper) (j i : Nat) : Prop := ∀ listed, Closed md ops listed → (∀ oj, ops[j]? = some oj → ∀ e ∈ oj.after, Region.binds md e = true → listed.getD e.on false = true) → listed.getD i false = true
def OkSeen (md : Region.Mode) (ops : Array Oper) (seen : List (Nat × Fp)) (j : Nat) (f : Fp) : Prop := ∀ p ∈ seen, Good md ops j p.1 ∨ apartFp p.2 f = true
def anyA (tab : Nat → Option TI) (T : Nat → Option FunE) (md : Region.Mode) (ops : Array Oper) (K : Env → Hp → Prop) : Nat → Array Bool → List (Nat × Fp) → Env → Hp → Prop
 | 0, listed, _, E, H => Region.ready md ops listed = [] ∧ K E H
 | fuel + 1, listed, seen, E, H => (Region.ready md ops listed = [] → K E H) ∧
  ∀ i ∈ Region.ready md ops listed, ∀ o, ops[i]? = some o → OkSeen md ops seen i (fpOf tab T ops E o) ∧ (stepG tab T ops E H o).Can fun r => anyA tab T md ops K fuel (listed.setIfInBounds i true) ((i, fpOf tab T ops E o) :: seen) r.1 r.2
theorem anyA_seen {K : Env → Hp → Prop} : ∀ (fuel : Nat) (listed : Array Bool) (s s' : List (Nat × Fp)) (E : Env) (H : Hp), (∀ p ∈ s', p ∈ s) → anyA tab T md ops K fuel listed s E H → anyA tab T md ops K fuel listed s' E H
 | 0, _, _, _, _, _, _, h => h
 | fuel + 1, listed, s, s', E, H, hs, h => ⟨h.1, fun i hi o ho => by
  obtain ⟨h1, h2⟩ := h.2 i hi o ho
  refine ⟨fun p hp => h1 p (hs p hp), h2.mono fun r hr => anyA_seen fuel _ _ _ _ _ (fun p hp => ?_) hr⟩
  rcases List.mem_cons.1 hp with rfl | hp
  ·simp
  ·simp [hs p hp]⟩

theorem closed_set {listed : Array Bool} {i : Nat} (hc : Closed md ops listed) (hi : i ∈ Region.ready md ops listed) : Closed md ops (listed.setIfInBounds i true) := by
 intro k o ho hk e he hb
 by_cases hki : i = k
 ·subst hki
  obtain ⟨_, o', ho', hall⟩ := mem_ready.1 hi
  rw [ho] at ho'; cases ho'
  exact getD_set_true (hall e he hb)
 ·rw [getD_set_ne false hki] at hk
  exact getD_set_true (hc k o ho hk e he hb)

theorem anyA_first {K : Env → Hp → Prop} {i : Nat} {oi : Oper} (hi : ops[i]? = some oi) {v : AV} {ups : List (Nat × Cell)} : ∀ (fuel : Nat) (listed : Array Bool) (seen : List (Nat × Fp)) (E : Env) (H : Hp), Closed md ops listed →
 (∀ j oj, ops[j]? = some oj → j ≠ i → listed.getD j true = false → (∀ e ∈ oj.after, Region.binds md e = true → e.on ≠ i) → oi.apart ops oj = true) →
 i ∈ Region.ready md ops listed → StepTo tab T ops E H oi v ups → OkSeen md ops seen i (fpOf tab T ops E oi) →
 anyA tab T md ops K fuel (listed.setIfInBounds i true) ((i, fpOf tab T ops E oi) :: seen) (putE E oi.dst v) (putH H ups) → anyA tab T md ops K (fuel + 1) listed seen E H := by
 intro fuel
 induction fuel with
 | zero =>
  intro listed seen E H _ _ hr hy hok HH
  refine ⟨fun h => (by rw [h] at hr; cases hr), fun j hj oj hoj => ?_⟩
  by_cases hji : j = i
  ·subst hji
   rw [hi] at hoj; cases hoj
   exact ⟨hok, hy.to HH⟩
  ·have := ready_mono hj hji
   rw [HH.1] at this
   cases this
 | succ fuel ih =>
  intro listed seen E H hcl hfree hr hy hok HH
  refine ⟨fun h => (by rw [h] at hr; cases hr), fun j hj oj hoj => ?_⟩
  by_cases hji : j = i
  ·subst hji
   rw [hi] at hoj; cases hoj
   exact ⟨hok, hy.to HH⟩
  ·obtain ⟨g1, g2⟩ := HH.2 j (ready_mono hj hji) oj hoj
   obtain ⟨hjun, oj', hoj', hall⟩ := mem_ready.1 hj
   rw [hoj] at hoj'; cases hoj'
   have hun_i : listed.getD i false = false := by
    have h0 := (mem_ready.1 hr).1
    rcases Nat.lt_or_ge i listed.size with h' | h'
    ·simp [h'] at h0 ⊢; exact h0
    ·simp [Array.getElem?_eq_none h']
   have hnot : ∀ e ∈ oj.after, Region.binds md e = true → e.on ≠ i := fun e he hb heq => by
    have h1 := hall e he hb
    rw [heq, hun_i] at h1
    cases h1
   have hap := hfree j oj hoj hji hjun hnot
   obtain ⟨a1, a2, a3⟩ := Oper.apart_spec hap
   have hfpj : fpOf tab T ops (putE E oi.dst v) oj = fpOf tab T ops E oj := by unfold fpOf; rw [way_put a1]
   rw [hfpj] at g1 g2
   have hfp : apartFp (fpOf tab T ops E oi) (fpOf tab T ops E oj) = true := by
    rcases g1 (i, fpOf tab T ops E oi) (by simp) with hg | hg
    ·have := hg listed hcl fun o' ho' => by rw [hoj] at ho'; cases ho'; exact hall
     rw [hun_i] at this; cases this
    ·exact hg
   obtain ⟨vj, uj, hyj, hKj⟩ := StepTo.of g2
   obtain ⟨s1, s2⟩ := hy.swap hap hfp hyj
   have ki := hy.keys
   have kj := s1.keys
   have fpi : fpOf tab T ops (putE E oj.dst vj) oi = fpOf tab T ops E oi := by unfold fpOf; rw [way_put a3]
   refine ⟨fun p hp => g1 p (by simp [hp]), s1.to ?_⟩
   refine ih (listed.setIfInBounds j true) ((j, fpOf tab T ops E oj) :: seen) _ _ (closed_set hcl hj) (fun k ok hk hki hun hno => ?_) (ready_mono hr (Ne.symm hji)) s2 ?_ ?_
   ·refine hfree k ok hk hki ?_ hno
    by_cases hjk : j = k
    ·subst hjk; exact hjun
    ·rw [getD_set_ne true hjk] at hun; exact hun
   ·rw [fpi]
    intro p hp
    rcases List.mem_cons.1 hp with rfl | hp
    ·exact .inr (apartFp_comm hfp)
    ·exact hok p hp
   ·rw [fpi, Array.setIfInBounds_comm _ _ hji, putE_comm (fun d hd hd' => a2 d hd' hd), putH_swap fun k hk hk' => ?_]
    ·exact anyA_seen _ _ _ _ _ _ (fun p hp => by simp at hp ⊢; rcases hp with hp | hp | hp <;> simp [hp]) hKj
    ·exact (apartFp_iff.1 hfp).1 k (ki k hk') (by simp [kj k hk])
end
end Go.Proofs.Ytadhpgecilhgnaa.A

-- YtadhpgecilhgnaaCtl3
set_option linter.unusedVariables false
set_option linter.unusedSimpArgs false
namespace Go.Proofs.Ytadhpgecilhgnaa.A
open Go
section
variable {P : Program} {B : Base} {m m' : Md} {H H' : Hp} {w w' : World} {o : Oper} {a : Act} {E : Env} {tab : Nat → Option TI} {T : Nat → Option FunE} {N : Nat} {ops : Array Oper} {md : Region.Mode}

theorem HOk.world (h : HOk B m H w) (e : w'.heap = w.heap) (e1 : w'.os = w.os) (e2 : w'.tape = w.tape) (e3 : w'.output = w.output) : HOk B m H w' :=
 h.change0 (ch := []) ⟨e1, e2, e3, by rw [e]; exact Nat.le_refl _, fun _ _ => ⟨rfl, rfl, rfl⟩, fun _ _ _ => by rw [e], fun _ h => h, fun _ h => .inl h, by simp, by simp, by simp, by simp⟩
theorem SE.drawn (s : SE B N E H a w) : SE B N E H a { w with drawn := w.drawn + 1 } := by
 obtain ⟨m, s, hN, hf⟩ := s
 exact ⟨m, ⟨s.h.world rfl rfl rfl rfl, fun t => (s.t t).evo (Evo.world (w := w) (w' := { w with drawn := w.drawn + 1 }) rfl), s.d⟩, hN, hf⟩

theorem any_ok (hW : WaysOk P tab T) (hops : ∀ (i : Nat) (o : Oper), ops[i]? = some o → operOkB N B.fx o = true) {K : Env → Hp → Prop} {Q : Exit → Act → World → Prop} (hQ : ∀ E H a w, SE B N E H a w → K E H → Q .normal a w) : ∀ (fuel : Nat) (listed : Array Bool) (seen : List (Nat × Fp)) (E : Env) (H : Hp) (a : Act) (w : World),
 SE B N E H a w → anyA tab T md ops K fuel listed seen E H → wpAny P md ops Q fuel listed a w
 | 0, _, _, _, _, _, _, s, h => ⟨h.1, hQ _ _ _ _ s h.2⟩
 | fuel + 1, listed, seen, E, H, a, w, s, h => ⟨fun h0 => hQ _ _ _ _ s (h.1 h0), fun i hi => by
  obtain ⟨_, o, ho, _⟩ := mem_ready.1 hi
  obtain ⟨_, h2⟩ := h.2 i hi o ho
  obtain ⟨E', H', k1, k2⟩ := stepG_ok hW s (hops i o ho) h2 Q
  unfold wpOp
  simp only [ho]
  exact k2 _ fun a' w' s' => any_ok hW hops hQ fuel _ _ _ _ _ _ s' k1⟩

theorem after_bits (acc : Array Nat) : ∀ (l : List Edge) (s i : Nat), (l.foldl (fun s e => if Region.binds .any e then s ||| 2 ^ e.on ||| acc.getD e.on 0 else s) s).testBit i = true →
 s.testBit i = true ∨ ∃ e ∈ l, Region.binds .any e = true ∧ (e.on = i ∨ (acc.getD e.on 0).testBit i = true)
 | [], s, i, h => .inl h
 | e :: l, s, i, h => by
  rw [List.foldl_cons] at h
  rcases after_bits acc l _ i h with h | ⟨e', h1, h2, h3⟩
  ·split at h
   ·rename_i hb
    rw [Nat.testBit_or, Nat.testBit_or, Nat.testBit_two_pow] at h
    simp only [Bool.or_eq_true, decide_eq_true_eq] at h
    rcases h with (h | h) | h
    ·exact .inl h
    ·exact .inr ⟨e, by simp, hb, .inl h⟩
    ·exact .inr ⟨e, by simp, hb, .inr h⟩
   ·exact .inl h
  ·exact .inr ⟨e', by simp [h1], h2, h3⟩
theorem before_fold : ∀ (l : List Oper) (acc : Array Nat), (∀ j, j < l.length → l[j]? = ops[acc.size + j]?) → (∀ j i, (acc.getD j 0).testBit i = true → Good .any ops j i) →
 ∀ j i, ((l.foldl (fun acc o => acc.push (o.after.foldl (fun s e => if Region.binds .any e then s ||| 2 ^ e.on ||| acc.getD e.on 0 else s) 0)) acc).getD j 0).testBit i = true → Good .any ops j i
 | [], acc, _, hg, j, i, h => hg j i h
 | o :: l, acc, hl, hg, j, i, h => by
  rw [List.foldl_cons] at h
  have h0 : ops[acc.size]? = some o := by simpa using (hl 0 (by simp)).symm
  refine before_fold l _ (fun j hj => ?_) (fun j i hb => ?_) j i h
  ·have := hl (j + 1) (by simp; omega)
   rw [List.getElem?_cons_succ] at this
   rw [this, Array.size_push]; congr 1; omega
  ·rw [Array.getD_eq_getD_getElem?, Array.getElem?_push] at hb
   split at hb
   ·rename_i hj
    subst hj
    simp only [Option.getD_some] at hb
    rw [← Array.foldl_toList] at hb
    rcases after_bits acc _ 0 i hb with hb | ⟨e, h1, h2, h3⟩
    ·simp at hb
    ·intro listed hc hd
     have he := hd o h0 e (by simpa using h1) h2
     rcases h3 with h3 | h3
     ·rw [← h3]; exact he
     ·exact hg e.on i h3 listed hc fun oj hoj e' he' hb' => hc e.on oj hoj he e' he' hb'
   ·exact hg j i (by rw [Array.getD_eq_getD_getElem?]; exact hb)
theorem before_good {j i : Nat} (h : ((Region.before ops).getD j 0).testBit i = true) : Good .any ops j i := by
 unfold Region.before at h
 rw [← Array.foldl_toList] at h
 refine before_fold ops.toList #[] (fun j _ => by simp) (fun j i h => by simp at h) j i h

theorem fps_zip {fps : List Fp} (h : fpsOk ops fps = true) {j i : Nat} {fj fi : Fp} (hj : fps[j]? = some fj) (hi : fps[i]? = some fi) (hlt : i < j) : Good .any ops j i ∨ apartFp fi fj = true := by
 unfold fpsOk at h
 simp only [List.all_eq_true] at h
 have h1 := h (fj, j) (by rw [List.mem_zipIdx_iff_getElem?]; exact hj) (fi, i) (by rw [List.mem_zipIdx_iff_getElem?]; simp only [List.getElem?_take]; rw [if_pos hlt]; exact hi)
 rw [Bool.or_eq_true] at h1
 rcases h1 with h1 | h1
 ·exact .inl (before_good h1)
 ·exact .inr (apartFp_comm h1)

variable {R : Type} {r : R}
theorem runOpsD_end {K : Env → Hp → Option R} : ∀ (l : List Oper) (E : Env) (H : Hp) (fps : List Fp), runOpsD tab T ops l E H fps K = some r → ∃ more, fpsOk ops (fps ++ more) = true
 | [], _, _, fps, h => by
  unfold runOpsD at h
  split at h
  ·rename_i hf; exact ⟨[], by simpa using hf⟩
  ·cases h
 | o :: l, E, H, fps, h => by
  unfold runOpsD at h
  obtain ⟨x, _, h2⟩ := Tst.can_out (Tst.can_of_to h)
  obtain ⟨more, hm⟩ := runOpsD_end l _ _ _ h2
  exact ⟨_ :: more, by simpa using hm⟩
theorem anyA_lex {K : Env → Hp → Option R} : ∀ (l : List Oper) (k : Nat) (listed : Array Bool) (fps : List Fp) (seen : List (Nat × Fp)) (E : Env) (H : Hp), (∀ j, l[j]? = ops[k + j]?) → Region.lexFrom .any ops l.length k listed = true → fps.length = k →
 (∀ p ∈ seen, fps[p.1]? = some p.2) → Closed .any ops listed → runOpsD tab T ops l E H fps K = some r → anyA tab T .any ops (fun E H => K E H = some r) l.length listed seen E H
 | [], k, listed, fps, seen, E, H, hl, hB, _, _, _, h => by
  unfold runOpsD at h
  split at h
  ·exact ⟨by simpa [Region.lexFrom] using hB, h⟩
  ·cases h
 | o :: l, k, listed, fps, seen, E, H, hl, hB, hk, hs, hc, h => by
  have h0 : ops[k]? = some o := by simpa using (hl 0).symm
  simp only [List.length_cons, Region.lexFrom, Bool.and_eq_true] at hB
  obtain ⟨⟨hr, hf⟩, hB'⟩ := hB
  unfold runOpsD at h
  obtain ⟨v, ups, hst, h2⟩ := StepTo.of (Tst.can_of_to h)
  obtain ⟨more, hm⟩ := runOpsD_end l _ _ _ h2
  have hri : k ∈ Region.ready .any ops listed := by simpa using hr
  refine anyA_first h0 l.length listed seen E H hc (Region.free_spec h0 hf) hri hst (fun p hp => ?_) ?_
  ·have hp1 := hs p hp
   have hlt : p.1 < fps.length := (List.getElem?_eq_some_iff.1 hp1).1
   refine fps_zip hm ?_ ?_ (by omega)
   ·rw [List.append_assoc, List.getElem?_append_right (by omega), hk]; simp
   ·rw [List.append_assoc, List.getElem?_append_left hlt]; exact hp1
  ·refine anyA_lex l (k + 1) _ _ _ _ _ (fun j => by have := hl (j + 1); simpa [Nat.add_assoc, Nat.add_comm 1 j] using this) hB' (by simp [hk]) (fun p hp => ?_) (closed_set hc hri) h2
   rcases List.mem_cons.1 hp with rfl | hp
   ·rw [List.getElem?_append_right (by simp [hk])]; simp [hk]
   ·have hp1 := hs p hp
    have hlt : p.1 < fps.length := (List.getElem?_eq_some_iff.1 hp1).1
    rw [List.getElem?_append_left hlt]; exact hp1

theorem region_ok (hW : WaysOk P tab T) (hops : ∀ o ∈ ops.toList, operOkB N B.fx o = true) {id : Nat} {K : Env → Hp → Option R} {Q : Exit → Act → World → Prop} (hQ : ∀ E H a w, SE B N E H a w → K E H = some r → Q .normal a w) (s : SE B N E H a w)
 (h : runOps tab T ops ops.toList E H K = some r) : (Code.region id ops false).wp P Q a w := by
 refine wp_region ?_
 have := runOps_ok hW (N := N) (B := B) hQ ops.toList 0 E H a w (fun j _ => by simp) hops s h
 rwa [Array.length_toList, ← List.range_eq_range'] at this
theorem region_draw_ok (hm : P.follows .mixedOrders = true) (hW : WaysOk P tab T) (hops : ∀ o ∈ ops.toList, operOkB N B.fx o = true) {id : Nat} {K : Env → Hp → Option R} {Q : Exit → Act → World → Prop} (hQ : ∀ E H a w, SE B N E H a w → K E H = some r → Q .normal a w) (s : SE B N E H a w)
 (hB : Region.lexB .any ops = true) (h : runOpsD tab T ops ops.toList E H [] K = some r) : (Code.region id ops true).wp P Q a w := by
 simp only [Region.lexB, Bool.and_eq_true] at hB
 refine wp_region_any hm ?_
 have := anyA_lex ops.toList 0 (Array.replicate ops.size false) [] [] E H (fun j => by simp) (by simpa using hB.2) rfl (by simp) (fun k o _ hk => by simp [Array.getElem?_replicate] at hk; split at hk <;> cases hk) h
 rw [Array.length_toList] at this
 exact any_ok hW (fun i o hi => hops o (by simpa using Array.mem_of_getElem? hi)) hQ _ _ _ _ _ _ _ s.drawn this
end
end Go.Proofs.Ytadhpgecilhgnaa.A

-- YtadhpgecilhgnaaCtl4
set_option linter.unusedVariables false
set_option linter.unusedSimpArgs false
namespace Go.Proofs.Ytadhpgecilhgnaa.A
open Go
section
variable {P : Program} {B : Base} {m m' m0 : Md} {H H' : Hp} {w w' : World} {o : Oper} {a : Act} {E : Env} {N : Nat}

theorem HOk.add (h : HOk B m H w) {k : Nat} (hk : H k = .absent) {ob : Obj} {hdr : Value} {F : List Nat} (hr : ORep m.Z w ob hdr F) (hn : F.Nodup) (hF : ∀ b ∈ F, ¬ m.Z b ∧ b < w.heap.size ∧ (b < B.w.heap.size → b ∈ B.F))
 (hs : ∀ j, (H j).Live → ∀ b ∈ m.ft j, b ∉ F) : HOk B (m.set k hdr F) (upd H k (.live ob)) w ∧ Evo m H w (m.set k hdr F) (upd H k (.live ob)) w := by
 have hother : ∀ j, j ≠ k → upd H k (.live ob) j = H j ∧ (m.set k hdr F).hd j = m.hd j ∧ (m.set k hdr F).ft j = m.ft j := fun j hj => ⟨upd_other _ _ hj, upd_other _ _ hj, upd_other _ _ hj⟩
 have hft : (m.set k hdr F).ft k = F := upd_same _ _ _
 refine ⟨⟨h.zl, h.zs, h.zi, fun j => ?_, fun j hl => ?_, fun i j hij hli hlj b hb => ?_, fun j hl b hb => ?_, h.kp⟩, Evo.of_at (fun b hb => ⟨hb, rfl⟩) fun j hab => ?_⟩
 ·by_cases hj : j = k
  ·subst hj
   rw [upd_same]
   simp only [CRep, Md.set]
   rw [upd_same, upd_same]
   exact hr
  ·obtain ⟨e1, e2, e3⟩ := hother j hj
   rw [e1]
   exact CRep.frame (m := m) (m' := m.set k hdr F) (fun _ _ => rfl) (fun _ h => h) e2 e3 (fun _ _ _ => rfl) (h.cr j)
 ·by_cases hj : j = k
  ·subst hj; rw [hft]; exact hn
  ·obtain ⟨e1, e2, e3⟩ := hother j hj
   rw [e1] at hl; rw [e3]; exact h.nd j hl
 ·by_cases hi : i = k <;> by_cases hj : j = k
  ·exact absurd (hi.trans hj.symm) hij
  ·subst hi
   obtain ⟨e1, e2, e3⟩ := hother j hj
   rw [hft] at hb; rw [e1] at hlj; rw [e3]
   exact fun hb' => hs j hlj b hb' hb
  ·subst hj
   obtain ⟨e1, e2, e3⟩ := hother i hi
   rw [e1] at hli; rw [e3] at hb; rw [hft]
   exact hs i hli b hb
  ·obtain ⟨e1, e2, e3⟩ := hother i hi
   obtain ⟨e4, e5, e6⟩ := hother j hj
   rw [e1] at hli; rw [e4] at hlj; rw [e3] at hb; rw [e6]
   exact h.sp i j hij hli hlj b hb
 ·by_cases hj : j = k
  ·subst hj; rw [hft] at hb; exact hF b hb
  ·obtain ⟨e1, e2, e3⟩ := hother j hj
   rw [e1] at hl; rw [e3] at hb; exact h.nz j hl b hb
 ·have hj : j ≠ k := fun e => hab (e ▸ hk)
  obtain ⟨e1, e2, e3⟩ := hother j hj
  refine ⟨by rw [e1]; exact hab, fun g ls hh => ⟨e2, g, ls, by rw [← e1]; exact hh, Nat.le_refl _, fun _ off e xs hx => ⟨xs, hx, rfl, fun _ _ => rfl⟩⟩, fun e xs hh => ⟨e2, xs, by rw [← e1]; exact hh, rfl⟩, fun e xs hh => ⟨e2, .inl (by rw [← e1]; exact hh)⟩, fun k e mm hh => ⟨e2, mm, by rw [← e1]; exact hh⟩, fun k e mm hh => ⟨e2, .inl (by rw [← e1]; exact hh)⟩, fun k e c r hh => ⟨e2, c, r, by rw [← e1]; exact hh⟩, fun g k e mm ho hh => ⟨e2, g, mm, ho, by rw [← e1]; exact hh, Nat.le_refl _, fun _ _ _ => rfl⟩⟩
theorem HOk.freeze (h : HOk B m H w) {F : List Nat} (hF : ∀ b ∈ F, b < w.heap.size ∧ (b < B.w.heap.size → b ∈ B.F)) (hs : ∀ j, (H j).Live → ∀ b ∈ m.ft j, b ∉ F) :
 HOk B { m with Z := fun b => m.Z b ∨ b ∈ F } H w ∧ Evo m H w { m with Z := fun b => m.Z b ∨ b ∈ F } H w := by
 refine ⟨⟨fun b hb => hb.elim (h.zl b) fun hb => (hF b hb).1, fun b hb => .inl (h.zs b hb), fun b hb hlt => hb.elim (fun hb => h.zi b hb hlt) fun hb => .inr ((hF b hb).2 hlt), fun j => ?_, h.nd, h.sp, fun j hl b hb => ?_, h.kp⟩, Evo.of_at (fun b hb => ⟨.inl hb, rfl⟩) fun j hab => ?_⟩
 ·exact CRep.frame (m := m) (m' := { m with Z := fun b => m.Z b ∨ b ∈ F }) (fun _ _ => rfl) (fun _ h => Or.inl h) rfl rfl (fun _ _ _ => rfl) (h.cr j)
 ·obtain ⟨h1, h2⟩ := h.nz j hl b hb
  exact ⟨fun hz => hz.elim h1 (hs j hl b hb), h2⟩
 ·exact ⟨hab, fun g ls hh => ⟨rfl, g, ls, hh, Nat.le_refl _, fun _ off e xs hx => ⟨xs, hx, rfl, fun _ _ => rfl⟩⟩, fun e xs hh => ⟨rfl, xs, hh, rfl⟩, fun e xs hh => ⟨rfl, .inl hh⟩, fun k e mm hh => ⟨rfl, mm, hh⟩, fun k e mm hh => ⟨rfl, .inl hh⟩, fun k e c r hh => ⟨rfl, c, r, hh⟩, fun g k e mm ho hh => ⟨rfl, g, mm, ho, hh, Nat.le_refl _, fun _ _ _ => rfl⟩⟩

theorem ofL_cons {α : Type} (d : α) (k : Nat) (x : α) (l : List (Nat × α)) : ofL d ((k, x) :: l) = upd (ofL d l) k x := rfl
theorem ofL_absent {α : Type} (d : α) : ∀ {l : List (Nat × α)} {k : Nat}, k ∉ l.map (·.1) → ofL d l k = d
 | [], _, _ => rfl
 | (n, x) :: l, k, h => by
  simp only [List.map_cons, List.mem_cons, not_or] at h
  rw [ofL_cons, upd_other _ _ h.1, ofL_absent d h.2]
theorem bare_ok (hz : ∀ b, m.Z b → m'.Z b) {l : LV} {c : Value} (h : LRep m w H l c) : LRep m' w H' (bare l) c := by
 have fr : ∀ {τ : Ty} {x : τ.den} {cs : List Value}, Rep m.Z w τ x cs [] → Rep m'.Z w τ x cs [] := fun h => h.frame (fun _ _ => rfl) hz (by simp)
 cases l with
 | v τ x => exact fr h
 | vw e xs => exact fr h
 | nils => exact h
 | nilm => exact h
 | nilp => exact h
 | pel τ x off =>
  obtain ⟨b, o, cs, h1, h2, h3, h4⟩ := h
  exact ⟨b, o, cs, h1, hz b h2, fr h3, h4⟩
 | _ => trivial

structure KInv (B : Base) (m : Md) (H : Hp) (w : World) (a : Act) (m' : Md) (es : List (Nat × AV)) (hs : List (Nat × Cell)) (ids : List Nat) : Prop where
 h : HOk B m' (ofL .absent hs) w
 t : ∀ t, AVRep m' w (ofL .absent hs) (ofL .junk es t) (a.tmps.getD t undef)
 z : ∀ b, m.Z b → m'.Z b
 zi : ∀ b, m'.Z b → m.Z b ∨ ∃ id ∈ ids, (H id).Live ∧ b ∈ m.ft id
 own : ∀ k, (ofL .absent hs k).Live → ∀ b ∈ m'.ft k, ∃ id ∈ ids, (H id).Live ∧ b ∈ m.ft id
 ks : ∀ k ∈ hs.map (·.1), ∃ t ∈ es.map (·.1), k = headId t
section
variable {es : List (Nat × AV)} {hs : List (Nat × Cell)} {ids : List Nat}
theorem ofL_putT {m : Md} {H : Hp} (h : ∀ t, AVRep m w H (ofL .junk es t) (a.tmps.getD t undef)) {t0 : Nat} {v : AV} (hv : AVRep m w H v (a.tmps.getD t0 undef)) (t : Nat) : AVRep m w H (ofL .junk ((t0, v) :: es) t) (a.tmps.getD t undef) := by
 rw [ofL_cons]
 by_cases ht : t = t0
 ·subst ht; rw [upd_same]; exact hv
 ·rw [upd_other _ _ ht]; exact h t
theorem KInv.plain (K : KInv B m H w a m0 es hs ids) {t0 : Nat} {v : AV} (hv : AVRep m0 w (ofL .absent hs) v (a.tmps.getD t0 undef)) : KInv B m H w a m0 ((t0, v) :: es) hs ids :=
 ⟨K.h, ofL_putT K.t hv, K.z, K.zi, K.own, fun k hk => let ⟨t, h1, h2⟩ := K.ks k hk; ⟨t, by simp at h1 ⊢; exact .inr h1, h2⟩⟩
theorem headId_inj {s t : Nat} (h : headId s = headId t) : s = t := by unfold headId at h; omega
theorem KInv.fresh (K : KInv B m H w a m0 es hs ids) {t0 : Nat} (hn : memN t0 (es.map (·.1)) = false) : ofL .absent hs (headId t0) = .absent :=
 ofL_absent _ fun hk => by
  obtain ⟨t, h1, h2⟩ := K.ks _ hk
  rw [headId_inj h2] at hn
  exact memN_false.1 hn h1
theorem KInv.keep (K : KInv B m H w a m0 es hs ids) (hh : HOk B m H w) {t0 : Nat} (hn : memN t0 (es.map (·.1)) = false) {id : Nat} (hid : memN id ids = false) (hl : (H id).Live) {ob : Obj} {hdr : Value} (hr : ORep m.Z w ob hdr (m.ft id)) {v : AV}
 (hv : AVRep (m0.set (headId t0) hdr (m.ft id)) w (upd (ofL .absent hs) (headId t0) (.live ob)) v (a.tmps.getD t0 undef)) : KInv B m H w a (m0.set (headId t0) hdr (m.ft id)) ((t0, v) :: es) ((headId t0, .live ob) :: hs) (id :: ids) := by
 have hidn := memN_false.1 hid
 have hr' : ORep m0.Z w ob hdr (m.ft id) := by
  have := CRep.frame (m := m.set id hdr (m.ft id)) (m' := { m.set id hdr (m.ft id) with Z := m0.Z }) (w := w) (w' := w) (id := id) (c := .live ob) (fun _ _ => rfl) K.z rfl rfl (fun _ _ _ => rfl) (by simp only [CRep, Md.set]; rw [upd_same, upd_same]; exact hr)
  simp only [CRep, Md.set] at this
  rw [upd_same, upd_same] at this
  exact this
 have hA : ∀ b ∈ m.ft id, ¬ m0.Z b ∧ b < w.heap.size ∧ (b < B.w.heap.size → b ∈ B.F) := fun b hb => ⟨fun hz => by
  rcases K.zi b hz with hz | ⟨i, i1, i2, i3⟩
  ·exact (hh.nz id hl b hb).1 hz
  ·exact hh.sp i id (fun e => hidn (e ▸ i1)) i2 hl b i3 hb, (hh.nz id hl b hb).2⟩
 have hB : ∀ j, (ofL .absent hs j).Live → ∀ b ∈ m0.ft j, b ∉ m.ft id := fun j hj b hb hb' => by
  obtain ⟨i, i1, i2, i3⟩ := K.own j hj b hb
  exact hh.sp i id (fun e => hidn (e ▸ i1)) i2 hl b i3 hb'
 obtain ⟨h1, h2⟩ := K.h.add (K.fresh hn) hr' (hh.nd id hl) hA hB
 ·refine ⟨h1, ofL_putT (fun t => (K.t t).evo h2) hv, K.z, fun b hb => (K.zi b hb).imp_right fun ⟨i, i1, i2⟩ => ⟨i, by simp [i1], i2⟩, fun k hk b hb => ?_, fun k hk => ?_⟩
  ·by_cases hk0 : k = headId t0
   ·subst hk0
    simp only [Md.set] at hb
    rw [upd_same] at hb
    exact ⟨id, by simp, hl, hb⟩
   ·rw [ofL_cons, upd_other _ _ hk0] at hk
    simp only [Md.set] at hb
    rw [upd_other _ _ hk0] at hb
    obtain ⟨i, i1, i2⟩ := K.own k hk b hb
    exact ⟨i, by simp [i1], i2⟩
  ·simp only [List.map_cons, List.mem_cons] at hk
   rcases hk with rfl | hk
   ·exact ⟨t0, by simp, rfl⟩
   ·obtain ⟨t, i1, i2⟩ := K.ks k hk
    exact ⟨t, by simp at i1 ⊢; exact .inr i1, i2⟩

theorem one_val {l : LV} {u : Value} (h : LRep m w H l u) : AVRep m w H (.val false [l]) u := ⟨[u], rfl, h, trivial⟩
theorem rows_frozen {Z Z' : Nat → Prop} {k e : Ty} (hp : e.pure = true) (hz : ∀ b, Z b → Z' b) : ∀ {mm : List (k.den × List e.den)} {es : List MapEntry} {F : List Nat}, (∀ b ∈ F, Z' b) → RepMF (TV Z w k (.vec e)) (KV Z w k) mm es F →
 RepM (fun x c F => Rep Z' w k x c F) (fun (x : (Ty.sl e).den) c F => Rep Z' w (.sl e) x c F) (!k.one) (!(Ty.sl e).one) mm es
 | [], _, _, _, h => h.1
 | p :: mm, _, _, hF, ⟨en, es', F1, F2, h1, h2, ⟨kc, h3, h4⟩, ⟨vc, h5, h6⟩, h7⟩ => by
  have h5 : [en.val] = vc := h5
  subst h5
  exact ⟨en, es', h1, ⟨kc, h3, h4.frame (fun _ _ => rfl) hz (by simp)⟩, ⟨[en.val], rfl, Rep.vec_sl hp h6 hz fun b hb => hF b (by rw [h2]; simp [hb])⟩, rows_frozen hp hz (fun b hb => hF b (by rw [h2]; simp [hb])) h7⟩
theorem keep1_ok (s : St B m E H a w) (hz : ∀ b, m.Z b → m0.Z b) {k : Keep} {v : AV} {c : Option Cell} {i : Option Nat} (h : keep1 E H k = some (v, c, i)) :
 (i = none ∧ c = none ∧ ∀ H', AVRep m0 w H' v (a.tmps.getD k.tmp undef)) ∨
 (∃ e, i = none ∧ c = some (.live (.row e [])) ∧ v = .val false [.row (headId k.tmp)] ∧ a.tmps.getD k.tmp undef = .slice none 0 0) ∨
 (∃ id ob hdr, i = some id ∧ c = some (.live ob) ∧ (H id).Live ∧ ORep m.Z w ob hdr (m.ft id) ∧ ∀ (m1 : Md) (H1 : Hp), m1.hd (headId k.tmp) = hdr → H1 (headId k.tmp) = .live ob → AVRep m1 w H1 v (a.tmps.getD k.tmp undef)) ∨
 (∃ id, i = some id ∧ c = none ∧ (H id).Live ∧ ∀ (m1 : Md) (H1 : Hp), (∀ b, m.Z b → m1.Z b) → (∀ b ∈ m.ft id, m1.Z b) → AVRep m1 w H1 v (a.tmps.getD k.tmp undef)) := by
 have fr : ∀ {τ : Ty} {x : τ.den} {cs : List Value}, Rep m.Z w τ x cs [] → Rep m0.Z w τ x cs [] := fun h => h.frame (fun _ _ => rfl) hz (by simp)
 have ht := s.t k.tmp
 have hrow : ∀ {id : Nat} {e : Ty} {xs : List e.den}, E k.tmp = .val false [.row id] → H id = .live (.row e xs) → a.tmps.getD k.tmp undef = m.hd id ∧ ORep m.Z w (.row e xs) (m.hd id) (m.ft id) := fun {id e xs} he hx => by
  rw [he] at ht
  have hc := s.h.cr id
  rw [hx] at hc
  exact ⟨ht.one.2.1 _ _ hx, hc⟩
 cases k with
 | slot t =>
  simp only [keep1, Keep.tmp] at h ht ⊢
  split at h
  ·rename_i id he
   split at h
   ·rename_i k' e' mm hx
    cases h
    rw [he] at ht
    have hc := s.h.cr id
    rw [hx] at hc
    have hv := ht.one.2.1 _ _ _ hx
    refine .inr (.inr (.inl ⟨id, _, m.hd id, rfl, rfl, by rw [hx]; trivial, hc, fun m1 H1 h1 h2 => one_val ⟨by rw [h2]; simp, fun k2 e2 mm2 h3 => by rw [h1]; exact hv, fun k2 e2 mm2 h3 => by rw [h1]; exact hv⟩⟩))
   ·rename_i k' e' mm hx
    cases h
    rw [he] at ht
    have hc := s.h.cr id
    rw [hx] at hc
    have hv := ht.one.2.2 _ _ _ hx
    exact .inl ⟨rfl, rfl, fun H' => one_val (by rw [hv]; exact fr hc)⟩
   ·cases h
  ·rename_i id he
   split at h
   ·rename_i k' e' c r hx
    cases h
    rw [he] at ht
    have hc := s.h.cr id
    rw [hx] at hc
    have hv := ht.one.2 _ _ _ _ hx
    refine .inr (.inr (.inl ⟨id, _, m.hd id, rfl, rfl, by rw [hx]; trivial, hc, fun m1 H1 h1 h2 => one_val ⟨by rw [h2]; simp, fun _ _ _ _ _ => by rw [h1]; exact hv⟩⟩))
   ·cases h
  ·rename_i id he
   split at h
   ·rename_i g k' e' mm hx
    cases h
    rw [he] at ht
    have hc := s.h.cr id
    rw [hx] at hc
    have hv := ht.one.2 _ _ _ _ _ hx
    refine .inr (.inr (.inl ⟨id, _, m.hd id, rfl, rfl, by rw [hx]; trivial, hc, fun m1 H1 h1 h2 => one_val ⟨by rw [h2]; simp, fun _ _ _ _ _ _ => by rw [h1]; exact hv⟩⟩))
   ·cases h
  ·rename_i g ls hne2 hne1 hne he
   cases h
   rw [he] at ht
   obtain ⟨cs, h1, h2⟩ := ht
   refine .inl ⟨rfl, rfl, fun H' => ⟨cs, h1, ?_⟩⟩
   clear h1 he hne hne1 hne2
   induction ls generalizing cs with
   | nil => cases cs with | nil => trivial | cons _ _ => exact h2.elim
   | cons l ls ih =>
    cases cs with
    | nil => exact h2.elim
    | cons c cs => exact ⟨bare_ok hz h2.1, ih cs h2.2⟩
  ·cases h
 | vec t e =>
  simp only [keep1, Keep.tmp] at h ht hrow ⊢
  split at h
  ·rename_i id he
   split at h
   ·rename_i e' xs hx
    cases h
    obtain ⟨h1, h2⟩ := hrow he hx
    refine .inr (.inr (.inl ⟨id, _, m.hd id, rfl, rfl, by rw [hx]; trivial, h2, fun m1 H1 h3 h4 => one_val ⟨by rw [h4]; simp, fun _ _ _ => by rw [h3]; exact h1, fun _ _ _ => by rw [h3]; exact h1⟩⟩))
   ·cases h
  ·rename_i he
   cases h
   rw [he] at ht
   exact .inr (.inl ⟨e, rfl, rfl, rfl, ht.one⟩)
  ·cases h
 | lit t e =>
  simp only [keep1, Keep.tmp] at h ht hrow ⊢
  split at h
  ·rename_i he
   cases h
   rw [he] at ht
   refine .inl ⟨rfl, rfl, fun H' => one_val ?_⟩
   have := ht.one
   exact ⟨rfl, by simp, none, 0, by rw [show a.tmps.getD t undef = .slice none 0 0 from this]; rfl, by simp, .inl rfl⟩
  ·rename_i e' xs he
   cases h
   rw [he] at ht
   exact .inl ⟨rfl, rfl, fun H' => one_val (fr ht.one)⟩
  ·rename_i e' xs he
   cases h
   rw [he] at ht
   exact .inl ⟨rfl, rfl, fun H' => one_val (fr (τ := .sl e') ht.one)⟩
  ·rename_i id he
   split at h
   ·rename_i e' xs hx
    split at h
    ·rename_i hp
     cases h
     obtain ⟨h1, h2⟩ := hrow he hx
     exact .inr (.inr (.inr ⟨id, rfl, rfl, by rw [hx]; trivial, fun m1 H1 z1 z2 => one_val (by rw [h1]; exact Rep.vec_sl (Z := m.Z) hp h2 z1 z2)⟩))
    ·cases h
   ·rename_i e' xs hx
    cases h
    rw [he] at ht
    have hc := s.h.cr id
    rw [hx] at hc
    have h1 := ht.one.2.2 _ _ hx
    exact .inl ⟨rfl, rfl, fun H' => one_val (fr (τ := .sl e') (by rw [h1]; exact hc))⟩
   ·cases h
  ·cases h
 | obj t τ =>
  simp only [keep1, Keep.tmp] at h ht ⊢
  split at h
  ·rename_i id off he
   split at h
   ·rename_i g ls hx
    split at h
    ·rename_i x hasm
     cases h
     rw [he] at ht
     have hc := s.h.cr id
     rw [hx] at hc
     obtain ⟨b, el, cs, F', k1, k2, k3, k4⟩ := hc
     obtain ⟨b', e1, e2⟩ := ht.one.2 _ _ hx
     rw [k1] at e1; cases e1
     refine .inr (.inr (.inl ⟨id, _, m.hd id, rfl, rfl, by rw [hx]; trivial, ⟨b, el, cs, F', k1, k2, k3, flat_ok (asmAllO hasm k4)⟩, fun m1 H1 h3 h4 => one_val ⟨by rw [h4]; simp, fun _ _ _ => ⟨b, by rw [h3]; exact k1, e2⟩⟩⟩))
    ·cases h
   ·cases h
  ·cases h
 | same t u => cases h
 | view t u => cases h
 | rows t =>
  simp only [keep1, Keep.tmp] at h ht ⊢
  split at h
  ·rename_i id he
   split at h
   ·rename_i g k' e' mm hx
    split at h
    ·rename_i hp
     cases h
     rw [he] at ht
     have hc := s.h.cr id
     rw [hx] at hc
     obtain ⟨b, ents, clock, F', k1, k2, k3, k4, k5⟩ := hc
     have hv := ht.one.2 _ _ _ _ _ hx
     refine .inr (.inr (.inr ⟨id, rfl, rfl, by rw [hx]; trivial, fun m1 H1 z1 z2 => one_val ?_⟩))
     refine ⟨rfl, b, ents, clock, by rw [hv, k1], z2 b (by rw [k2]; simp), k3, k4, ?_⟩
     exact rows_frozen hp z1 (fun z hz => z2 z (by rw [k2]; simp [hz])) k5
    ·cases h
   ·cases h
  ·rename_i g ls hne he
   cases h
   rw [he] at ht
   obtain ⟨cs, h1, h2⟩ := ht
   refine .inl ⟨rfl, rfl, fun H' => ⟨cs, h1, ?_⟩⟩
   clear h1 he hne
   induction ls generalizing cs with
   | nil => cases cs with | nil => trivial | cons _ _ => exact h2.elim
   | cons l ls ih =>
    cases cs with
    | nil => exact h2.elim
    | cons c cs => exact ⟨bare_ok hz h2.1, ih cs h2.2⟩
  ·cases h
 | nlit t e =>
  simp only [keep1, Keep.tmp] at h ht ⊢
  split at h
  ·rename_i he
   cases h
   rw [he] at ht
   refine .inl ⟨rfl, rfl, fun H' => one_val ?_⟩
   have := ht.one
   exact ⟨fun _ => by rw [show a.tmps.getD t undef = .slice none 0 0 from this], rfl, by simp, none, 0, by rw [show a.tmps.getD t undef = .slice none 0 0 from this]; rfl, by simp, .inl rfl⟩
  ·rename_i e' xs he
   cases h
   rw [he] at ht
   exact .inl ⟨rfl, rfl, fun H' => one_val (fr (τ := .nsl e') ht.one)⟩
  ·cases h
theorem sameAV_ok (s : St B m E H a w) {t u : Nat} (h : sameAV H (E t) (E u) = true) : a.tmps.getD t undef = a.tmps.getD u undef := by
 have ht := s.t t
 have hu := s.t u
 unfold sameAV at h
 split at h
 ·rename_i x y e1 e2
  rw [e1] at ht; rw [e2] at hu
  simp only [Bool.and_eq_true] at h
  obtain rfl := Nat.eq_of_beq_eq_true h.1
  have h2 := h.2
  split at h2
  ·rename_i hx; rw [ht.one.2.1 _ _ hx, hu.one.2.1 _ _ hx]
  ·rename_i hx; rw [ht.one.2.2 _ _ hx, hu.one.2.2 _ _ hx]
  ·cases h2
 ·rename_i x y e1 e2
  rw [e1] at ht; rw [e2] at hu
  simp only [Bool.and_eq_true] at h
  obtain rfl := Nat.eq_of_beq_eq_true h.1
  have h2 := h.2
  split at h2
  ·rename_i hx; rw [ht.one.2.1 _ _ _ hx, hu.one.2.1 _ _ _ hx]
  ·rename_i hx; rw [ht.one.2.2 _ _ _ hx, hu.one.2.2 _ _ _ hx]
  ·cases h2
 ·rename_i x o1 y o2 e1 e2
  rw [e1] at ht; rw [e2] at hu
  simp only [Bool.and_eq_true] at h
  obtain rfl := Nat.eq_of_beq_eq_true h.1.1
  obtain rfl := Nat.eq_of_beq_eq_true h.1.2
  have h2 := h.2
  split at h2
  ·rename_i hx
   obtain ⟨b, q1, q2⟩ := ht.one.2 _ _ hx
   obtain ⟨b', q3, q4⟩ := hu.one.2 _ _ hx
   rw [q1] at q3; cases q3
   rw [q2, q4]
  ·cases h2
 ·cases h

theorem viewAV_ok (s : St B m E H a w) (K : KInv B m H w a m0 es hs ids) {t u : Nat} {v : AV} (h : viewAV H (headId u) (E t) (E u) (ofL .junk es u) = some v) : AVRep m0 w (ofL .absent hs) v (a.tmps.getD t undef) := by
 have ht := s.t t
 have hu := s.t u
 have hk := K.t u
 unfold viewAV at h
 split at h
 ·rename_i id g off lo sz id' o' k o e1 e2 e3
  rw [e1] at ht; rw [e2] at hu; rw [e3] at hk
  split at h
  ·rename_i g' ls hx
   split at h
   ·rename_i e xs hb hl
    cases h
    simp only [Bool.and_eq_true] at hb
    obtain ⟨⟨b1, b2⟩, b3⟩ := hb
    obtain rfl := Nat.eq_of_beq_eq_true b1
    obtain rfl := Nat.eq_of_beq_eq_true b2
    obtain rfl := Nat.eq_of_beq_eq_true b3
    obtain ⟨b, ad, cap, q1, q2, q3, q4⟩ := ht.one.2.2 ls e xs hx hl
    obtain ⟨b', q5, q6⟩ := hu.one.2 _ _ hx
    rw [q1] at q5; cases q5
    refine AVRep.mk1 ⟨hk.one.1, fun g0 ls0 _ => Nat.zero_le _, fun ls' e' xs' r1 r2 => ?_⟩
    obtain ⟨b'', r3, r4⟩ := hk.one.2 _ _ r1
    rw [q6] at r4
    simp only [Value.pointer.injEq, Option.some.injEq, Addr.mk.injEq, and_true] at r4
    obtain ⟨rfl, -⟩ := r4
    obtain ⟨b3, u', G, z1, z2, z3, _⟩ := cells_leaf K.h r1 r2
    rw [r3] at z1; cases z1
    rw [q2] at z2; cases z2
    obtain ⟨s1, ad', cap', s2, s3, s4⟩ := Rep.slv_vec z3
    simp only [Value.slice.injEq] at s2
    obtain ⟨rfl, sl, rfl⟩ := s2
    exact ⟨b, ad, cap, r3, by rw [q2, sl], by omega, by rw [← sl]; exact q4⟩
   ·cases h
  ·cases h
 ·cases h
theorem keepE_ok (s : St B m E H a w) : ∀ {ks : List Keep} {es : List (Nat × AV)} {hs : List (Nat × Cell)} {ids : List Nat}, keepE E H ks = some (es, hs, ids) → ∃ m', KInv B m H w a m' es hs ids
 | [], _, _, _, h => by
  cases h
  refine ⟨m, ⟨s.h.zl, s.h.zs, s.h.zi, fun _ => trivial, fun _ h => h.elim, fun _ _ _ h => h.elim, fun _ h => h.elim, s.h.kp⟩, fun _ => trivial, fun _ h => h, fun _ h => .inl h, fun _ h => h.elim, by simp⟩
 | k :: l, es, hs, ids, h => by
  unfold keepE at h
  split at h
  ·rename_i es0 hs0 ids0 hl
   obtain ⟨m0, K⟩ := keepE_ok s hl
   split at h
   ·cases h
   ·rename_i hn
    split at h
    ·rename_i t u
     split at h
     ·rename_i hs
      cases h
      exact ⟨m0, K.plain (t0 := t) (v := ofL .junk es0 u) (by rw [sameAV_ok s hs]; exact K.t u)⟩
     ·cases h
    ·rename_i t u
     split at h
     ·rename_i v hv
      cases h
      exact ⟨m0, K.plain (t0 := t) (viewAV_ok s K hv)⟩
     ·cases h
    split at h
    ·rename_i v hk
     cases h
     rcases keep1_ok s K.z hk with ⟨_, _, h1⟩ | ⟨_, _, h1, _⟩ | ⟨_, _, _, h1, _⟩ | ⟨_, h1, _⟩
     ·exact ⟨m0, K.plain (h1 _)⟩
     ·cases h1
     ·cases h1
     ·cases h1
    ·rename_i v c hk
     cases h
     rcases keep1_ok s K.z hk with ⟨_, h1, _⟩ | ⟨e, _, h1, h2, h3⟩ | ⟨_, _, _, h1, _⟩ | ⟨_, h1, _⟩
     ·cases h1
     ·cases h1
      subst h2
      obtain ⟨q1, q2⟩ := K.h.add (ob := .row e []) (hdr := .slice none 0 0) (F := []) (K.fresh hn) ⟨by simp, none, 0, [], [], [], rfl, by simp, rfl, ⟨rfl, rfl⟩, .inl ⟨rfl, rfl, rfl, rfl⟩⟩ (by simp) (by simp) (by simp)
      refine ⟨_, q1, ofL_putT (fun t => (K.t t).evo q2) (one_val ⟨?_, ?_, ?_⟩), K.z, K.zi, fun k' hk' b hb => ?_, fun k' hk' => ?_⟩
      ·rw [upd_same]; simp
      ·intro _ _ _; simp only [Md.set]; rw [upd_same]; exact h3
      ·intro _ _ _; simp only [Md.set]; rw [upd_same]; exact h3
      ·by_cases hk0 : k' = headId k.tmp
       ·subst hk0
        simp only [Md.set] at hb
        rw [upd_same] at hb
        cases hb
       ·rw [ofL_cons, upd_other _ _ hk0] at hk'
        simp only [Md.set] at hb
        rw [upd_other _ _ hk0] at hb
        exact K.own k' hk' b hb
      ·simp only [List.map_cons, List.mem_cons] at hk'
       rcases hk' with rfl | hk'
       ·exact ⟨k.tmp, by simp, rfl⟩
       ·obtain ⟨t, i1, i2⟩ := K.ks k' hk'
        exact ⟨t, by simp at i1 ⊢; exact .inr i1, i2⟩
     ·cases h1
     ·cases h1
    ·rename_i v c id hk
     split at h
     ·cases h
     ·rename_i hid
      split at h
      ·rename_i c'
       cases h
       rcases keep1_ok s K.z hk with ⟨h1, _⟩ | ⟨_, h1, _⟩ | ⟨_, ob, hdr, h1, h2, h3, h4, h5⟩ | ⟨_, _, h1, _⟩
       ·cases h1
       ·cases h1
       ·cases h1; cases h2
        exact ⟨_, K.keep s.h hn hid h3 h4 (h5 _ _ (by simp only [Md.set]; rw [upd_same]) (by rw [upd_same]))⟩
       ·cases h1
      ·cases h
       rcases keep1_ok s K.z hk with ⟨h1, _⟩ | ⟨_, h1, _⟩ | ⟨_, ob, hdr, _, h2, _⟩ | ⟨_, h1, _, hL, h5⟩
       ·cases h1
       ·cases h1
       ·cases h2
       ·cases h1
        have hidn := memN_false.1 hid
        obtain ⟨q1, q2⟩ := K.h.freeze (F := m.ft id) (fun b hb => (s.h.nz id hL b hb).2) fun j hj b hb hb' => by
         obtain ⟨i, i1, i2, i3⟩ := K.own j hj b hb
         exact s.h.sp i id (fun e => hidn (e ▸ i1)) i2 hL b i3 hb'
        refine ⟨_, q1, ofL_putT (fun t => (K.t t).evo q2) ?_, fun b hb => .inl (K.z b hb), fun b hb => ?_, fun k' hk' b hb => ?_, fun k' hk' => ?_⟩
        ·exact h5 _ _ (fun b hb => .inl (K.z b hb)) fun b hb => .inr hb
        ·rcases hb with hb | hb
         ·exact (K.zi b hb).imp_right fun ⟨i, i1, i2⟩ => ⟨i, by simp [i1], i2⟩
         ·exact .inr ⟨id, by simp, hL, hb⟩
        ·obtain ⟨i, i1, i2⟩ := K.own k' hk' b hb
         exact ⟨i, by simp [i1], i2⟩
        ·obtain ⟨t, i1, i2⟩ := K.ks k' hk'
         exact ⟨t, by simp at i1 ⊢; exact .inr i1, i2⟩
    ·cases h
  ·cases h
end
end
end Go.Proofs.Ytadhpgecilhgnaa.A

-- YtadhpgecilhgnaaCtl5
set_option linter.unusedVariables false
set_option linter.unusedSimpArgs false
namespace Go.Proofs.Ytadhpgecilhgnaa.A
open Go
def codeOkB (N : Nat) (fx : List Nat) : Code → Bool
 | .region _ ops _ => ops.toList.all (operOkB N fx)
 | .seq a b => codeOkB N fx a && codeOkB N fx b
 | .cond c a b => opndOkB c && codeOkB N fx a && codeOkB N fx b
 | .block _ b => codeOkB N fx b
 | .loop b => codeOkB N fx b
 | _ => true
def frOkB (N : Nat) (fx : List Nat) : Fr → Bool
 | .seqR b => codeOkB N fx b
 | .blk _ => true
 | .loopF b => codeOkB N fx b

def LoopWp (P : Program) (c : Code) (Q : Exit → Act → World → Prop) (a : Act) (w : World) : Prop :=
 ∀ (b : Frame) (k : List Item) (cs : List Frame), ∃ e a' w', Q e a' w' ∧ Arrives P (lone (b.at a (.code c :: .inLoop c :: k)) cs w) b k cs e a' w'
theorem LoopWp.wp {P : Program} {c : Code} {Q : Exit → Act → World → Prop} {a : Act} {w : World} (h : LoopWp P c Q a w) : (Code.loop c).wp P Q a w :=
 fun b k cs => let ⟨e, a', w', h1, h2⟩ := h b k cs; ⟨e, a', w', h1, .of_steps (.one step_loop) h2⟩
theorem LoopWp.round {P : Program} {c : Code} {Q : Exit → Act → World → Prop} {a : Act} {w : World} (h : c.wp P (Exit.then (LoopWp P c Q) Q) a w) : LoopWp P c Q a w := by
 intro b k cs
 obtain ⟨e, a₁, w₁, hq, harr⟩ := h b (.inLoop c :: k) cs
 cases e with
 | normal =>
  obtain ⟨e₂, a₂, w₂, hq₂, harr₂⟩ := hq b k cs
  exact ⟨e₂, a₂, w₂, hq₂, .of_steps (Steps.trans harr (.one step_inLoop)) harr₂⟩
 | exit id => exact ⟨_, a₁, w₁, hq, .pass (x := .inLoop c) rfl (fun _ _ => .inl (by simp)) harr⟩
 | goto l => exact ⟨_, a₁, w₁, hq, .pass (x := .inLoop c) rfl (fun _ _ => .inl (by simp)) harr⟩
 | ret => exact ⟨_, a₁, w₁, hq, .pass (x := .inLoop c) rfl (fun _ _ => .inl (by simp)) harr⟩
 | panic ch => exact ⟨_, a₁, w₁, hq, .pass (x := .inLoop c) rfl (fun _ _ => .inl (by simp)) harr⟩
 | outgrown => exact ⟨_, a₁, w₁, hq, .pass (x := .inLoop c) rfl (fun _ _ => .inl (by simp)) harr⟩

def QF (P : Program) (Q0 : Exit → Act → World → Prop) : List Fr → Exit → Act → World → Prop
 | [] => Q0
 | .seqR b :: fs => Exit.then (b.wp P (QF P Q0 fs)) (QF P Q0 fs)
 | .blk id :: fs => Exit.inBlock id (QF P Q0 fs)
 | .loopF b :: fs => Exit.then (LoopWp P b (QF P Q0 fs)) (QF P Q0 fs)
def SemC (P : Program) (Q0 : Exit → Act → World → Prop) (c : Code) (fs : List Fr) (a : Act) (w : World) : Prop :=
 match c with
 | .loop b => LoopWp P b (QF P Q0 fs) a w
 | c => c.wp P (QF P Q0 fs) a w
theorem SemC.wp {P : Program} {Q0 : Exit → Act → World → Prop} {c : Code} {fs : List Fr} {a : Act} {w : World} (h : SemC P Q0 c fs a w) : c.wp P (QF P Q0 fs) a w := by
 cases c <;> first | exact h | exact LoopWp.wp h

section
variable {P : Program} {B : Base} {m m' m0 : Md} {H H' : Hp} {w w' : World} {o : Oper} {a : Act} {E : Env} {N : Nat} {tab : Nat → Option TI} {T : Nat → Option FunE} {R : Type} {r : R} {Q0 : Exit → Act → World → Prop}
def LowOk (P : Program) (B : Base) (N : Nat) (Q0 : Exit → Act → World → Prop) {R : Type} (r : R) (L : Low R) : Prop :=
 ∀ (c : Code) (fs : List Fr) (E : Env) (H : Hp) (a : Act) (w : World), codeOkB N B.fx c = true → fs.all (frOkB N B.fx) = true → SE B N E H a w → L c fs E H = some r → SemC P Q0 c fs a w
def KonOk (P : Program) (B : Base) (N : Nat) {R : Type} (r : R) (Q : Exit → Act → World → Prop) (K : Kont R) : Prop :=
 ∀ (x : Exit) (E : Env) (H : Hp) (a : Act) (w : World), SE B N E H a w → K x E H = some r → Q x a w
theorem atCut_ok {L : Low R} (hL : LowOk P B N Q0 r L) {ks : List Keep} {c : Code} {fs : List Fr} (hc : codeOkB N B.fx c = true) (hfs : fs.all (frOkB N B.fx) = true) (s : SE B N E H a w) (h : atCut L ks c fs E H = some r) : SemC P Q0 c fs a w := by
 unfold atCut at h
 split at h
 ·rename_i es hs ids hk
  obtain ⟨m, st, hN, hf⟩ := s
  obtain ⟨m', K⟩ := keepE_ok st hk
  exact hL _ _ _ _ _ _ hc hfs ⟨m', ⟨K.h, K.t, st.d⟩, hN, hf⟩ h
 ·cases h

theorem bool_eval (s : St B m E H a w) {c : Operand} (hc : opndOkB c = true) {b : Bool} (h : evalO E c = .val false [.v .bool b]) : a.eval c = .bool b := by
 have := evalO_ok s hc
 rw [h] at this
 exact this.one.bool

theorem runS_ok (hm : P.follows .mixedOrders = true) (hW : WaysOk P tab T) {ann : Nat → Option (List Keep)} {L : Low R} (hL : LowOk P B N Q0 r L) : ∀ (c : Code) (fs : List Fr) (E : Env) (H : Hp) (a : Act) (w : World) (K : Kont R),
 codeOkB N B.fx c = true → fs.all (frOkB N B.fx) = true → KonOk P B N r (QF P Q0 fs) K → SE B N E H a w → runS tab T ann L c fs E H K = some r → c.wp P (QF P Q0 fs) a w := by
 intro c
 induction c with
 | skip => intro fs E H a w K _ _ hK s h; exact wp_skip (hK _ _ _ _ _ s h)
 | region id ops d =>
  intro fs E H a w K hc _ hK s h
  have hops : ∀ o ∈ ops.toList, operOkB N B.fx o = true := List.all_eq_true.1 hc
  cases d with
  | false => exact region_ok hW hops (fun E H a w s h => hK _ _ _ _ _ s h) s h
  | true =>
   simp only [runS] at h
   split at h
   ·rename_i hB
    exact region_draw_ok hm hW hops (fun E H a w s h => hK _ _ _ _ _ s h) s hB h
   ·cases h
 | seq x y ihx ihy =>
  intro fs E H a w K hc hfs hK s h
  simp only [codeOkB, Bool.and_eq_true] at hc
  refine wp_seq (ihx (.seqR y :: fs) E H a w _ hc.1 (by rw [List.all_cons, Bool.and_eq_true]; exact ⟨hc.2, hfs⟩) (fun e E H a w s h => ?_) s h)
  cases e with
  | normal =>
   simp only at h
   show y.wp P (QF P Q0 fs) a w
   split at h
   ·exact (atCut_ok hL hc.2 hfs s h).wp
   ·exact ihy fs E H a w K hc.2 hfs hK s h
  | exit id => exact hK _ _ _ _ _ s h
  | goto l => exact hK _ _ _ _ _ s h
  | ret => exact hK _ _ _ _ _ s h
  | panic ch => exact hK _ _ _ _ _ s h
  | outgrown => exact hK _ _ _ _ _ s h
 | cond c x y ihx ihy =>
  intro fs E H a w K hc hfs hK s h
  simp only [codeOkB, Bool.and_eq_true] at hc
  obtain ⟨⟨h0, h1⟩, h2⟩ := hc
  have s' := s
  obtain ⟨m, st, hN, hf⟩ := s
  simp only [runS] at h
  unfold condOf at h
  split at h
  ·rename_i t b hcc
   split at hcc
   ·rename_i b' he
    simp only [Option.some.injEq, Prod.mk.injEq] at hcc
    obtain ⟨hcc, rfl⟩ := hcc
    have hev := bool_eval st h0 he
    have hE : E t = bLV b' := by
     cases c <;> simp at hcc
     subst hcc; exact he
    cases b' with
    | true =>
     simp only [if_true] at h
     rw [upd_self _ _ _ hE] at h
     exact wp_cond_true hev (ihx fs E H a w K h1 hfs hK s' h)
    | false =>
     simp only [Bool.false_eq_true, if_false] at h
     rw [upd_self _ _ _ hE] at h
     exact wp_cond_false hev (ihy fs E H a w K h2 hfs hK s' h)
   ·cases hcc
  ·rename_i b hcc
   split at hcc
   ·rename_i b' he
    simp only [Option.some.injEq, Prod.mk.injEq] at hcc
    obtain ⟨hcc, rfl⟩ := hcc
    have hev := bool_eval st h0 he
    cases b' with
    | true =>
     simp only [if_true] at h
     exact wp_cond_true hev (ihx fs E H a w K h1 hfs hK s' h)
    | false =>
     simp only [Bool.false_eq_true, if_false] at h
     exact wp_cond_false hev (ihy fs E H a w K h2 hfs hK s' h)
   ·cases hcc
  ·cases h
 | block id b ih =>
  intro fs E H a w K hc hfs hK s h
  refine wp_block (ih (.blk id :: fs) E H a w _ hc (by rw [List.all_cons, Bool.and_eq_true]; exact ⟨rfl, hfs⟩) (fun e E H a w s h => ?_) s h)
  cases e with
  | exit i =>
   simp only at h
   show if i = id then _ else _
   split at h
   ·rename_i hb
    rw [if_pos (Nat.eq_of_beq_eq_true hb)]
    exact hK _ _ _ _ _ s h
   ·rename_i hb
    rw [if_neg (Nat.ne_of_beq_eq_false hb)]
    exact hK _ _ _ _ _ s h
  | normal => exact hK _ _ _ _ _ s h
  | goto l => exact hK _ _ _ _ _ s h
  | ret => exact hK _ _ _ _ _ s h
  | panic ch => exact hK _ _ _ _ _ s h
  | outgrown => exact hK _ _ _ _ _ s h
 | loop b ih =>
  intro fs E H a w K hc hfs hK s h
  simp only [runS] at h
  split at h
  ·exact (atCut_ok hL (c := .loop b) hc hfs s h).wp
  ·cases h
 | exit id => intro fs E H a w K _ _ hK s h; exact wp_exit (hK _ _ _ _ _ s h)
 | ret => intro fs E H a w K _ _ hK s h; exact wp_ret (hK _ _ _ _ _ s h)
 | _ => intros; rename_i h; simp [runS] at h

theorem clos_ok (hm : P.follows .mixedOrders = true) (hW : WaysOk P tab T) {ann : Nat → Option (List Keep)} {L : Low R} (hL : LowOk P B N Q0 r L) {fin : Kont R} (hfin : KonOk P B N r Q0 fin) : ∀ (fs : List Fr), fs.all (frOkB N B.fx) = true → KonOk P B N r (QF P Q0 fs) (clos tab T ann L fin fs)
 | [], _ => hfin
 | .seqR b :: fs, hfs => by
  rw [List.all_cons, Bool.and_eq_true] at hfs
  have ih := clos_ok (ann := ann) hm hW hL hfin fs hfs.2
  intro e E H a w s h
  cases e with
  | normal =>
   simp only [clos] at h
   show b.wp P (QF P Q0 fs) a w
   split at h
   ·exact (atCut_ok hL hfs.1 hfs.2 s h).wp
   ·exact runS_ok hm hW hL b fs E H a w _ hfs.1 hfs.2 ih s h
  | exit id => exact ih _ _ _ _ _ s h
  | goto l => exact ih _ _ _ _ _ s h
  | ret => exact ih _ _ _ _ _ s h
  | panic ch => exact ih _ _ _ _ _ s h
  | outgrown => exact ih _ _ _ _ _ s h
 | .blk id :: fs, hfs => by
  rw [List.all_cons, Bool.and_eq_true] at hfs
  have ih := clos_ok (ann := ann) hm hW hL hfin fs hfs.2
  intro e E H a w s h
  cases e with
  | exit i =>
   simp only [clos] at h
   show if i = id then _ else _
   split at h
   ·rename_i hb
    rw [if_pos (Nat.eq_of_beq_eq_true hb)]
    exact ih _ _ _ _ _ s h
   ·rename_i hb
    rw [if_neg (Nat.ne_of_beq_eq_false hb)]
    exact ih _ _ _ _ _ s h
  | normal => exact ih _ _ _ _ _ s h
  | goto l => exact ih _ _ _ _ _ s h
  | ret => exact ih _ _ _ _ _ s h
  | panic ch => exact ih _ _ _ _ _ s h
  | outgrown => exact ih _ _ _ _ _ s h
 | .loopF b :: fs, hfs => by
  rw [List.all_cons, Bool.and_eq_true] at hfs
  have ih := clos_ok (ann := ann) hm hW hL hfin fs hfs.2
  intro e E H a w s h
  cases e with
  | normal =>
   simp only [clos] at h
   show LoopWp P b (QF P Q0 fs) a w
   split at h
   ·exact atCut_ok hL (c := .loop b) hfs.1 hfs.2 s h
   ·cases h
  | exit id => exact ih _ _ _ _ _ s h
  | goto l => exact ih _ _ _ _ _ s h
  | ret => exact ih _ _ _ _ _ s h
  | panic ch => exact ih _ _ _ _ _ s h
  | outgrown => exact ih _ _ _ _ _ s h

theorem runN_ok (hm : P.follows .mixedOrders = true) {T : Nat → Nat → Option FunE} {ann : Nat → Option (List Keep)} {fin : Kont R} (hfin : KonOk P B N r Q0 fin) : ∀ n, (∀ k, k < n → WaysOk P tab (T k)) → LowOk P B N Q0 r (runN tab T ann fin n)
 | 0, _ => fun c fs E H a w _ _ _ h => by cases h
 | n + 1, hW => by
  have hL := runN_ok hm (ann := ann) hfin n (fun k hk => hW k (by omega))
  have hW := hW n (by omega)
  intro c fs E H a w hc hfs s h
  unfold runN at h
  cases c with
  | loop b =>
   have hfs' : (Fr.loopF b :: fs).all (frOkB N B.fx) = true := by rw [List.all_cons, Bool.and_eq_true]; exact ⟨hc, hfs⟩
   exact LoopWp.round (runS_ok hm hW hL b (.loopF b :: fs) E H a w _ hc hfs' (clos_ok (ann := ann) hm hW hL hfin _ hfs') s h)
  | _ => exact runS_ok hm hW hL _ fs E H a w _ hc hfs (clos_ok (ann := ann) hm hW hL hfin _ hfs) s h
end
end Go.Proofs.Ytadhpgecilhgnaa.A

-- YtadhpgecilhgnaaFn1
set_option linter.unusedVariables false
set_option linter.unusedSimpArgs false
namespace Go.Proofs.Ytadhpgecilhgnaa.A
open Go

def ArgRep (Z : Nat → Prop) (w : World) (io : Bool) (τ : Ty) (x : τ.den) (v : Value) (F : List Nat) : Prop :=
 match io with
 | true => ∃ b el cs F', v = .pointer (some ⟨b, 0, none⟩) ∧ F = b :: F' ∧ w.heap[b]? = some (.cells cs.toArray el (0, 0)) ∧ Rep Z w τ x cs F'
 | false => ∃ cs, IsV (!τ.one) cs v ∧ Rep Z w τ x cs F
def ArgsRep (Z : Nat → Prop) (w : World) : (ps : List (Bool × Ty)) → (ps.foldr (fun p t => Ty.pair p.2 t) .unit).den → List Value → List Nat → Prop
 | [], _, vs, F => vs = [] ∧ F = []
 | p :: ps, x, vs, F => ∃ v vs' F1 F2, vs = v :: vs' ∧ F = F1 ++ F2 ∧ ArgRep Z w p.1 p.2 x.1 v F1 ∧ ArgsRep Z w ps x.2 vs' F2
def ResL (Z : Nat → Prop) (w : World) : (outs : List Ty) → (outs.foldr Ty.pair .unit).den → List Value → List Nat → Prop
 | [], _, vs, F => vs = [] ∧ F = []
 | τ :: outs, x, vs, F => ∃ v vs' F1 F2, vs = v :: vs' ∧ F = F1 ++ F2 ∧ (∃ cs, IsV (!τ.one) cs v ∧ Rep Z w τ x.1 cs F1) ∧ ResL Z w outs x.2 vs' F2
def tupOf : List Value → Value
 | [v] => v
 | vs => .tuple vs.toArray
def IoRep (Z : Nat → Prop) (w : World) : (ps : List (Bool × Ty)) → (((ps.filter (·.1)).map (·.2)).foldr Ty.pair .unit).den → List Value → List Nat → Prop
 | [], _, _, F => F = []
 | (false, _) :: ps, x, vs, F => IoRep Z w ps x vs.tail F
 | (true, τ) :: ps, x, vs, F => ∃ b el cs F1 F2, vs.head? = some (.pointer (some ⟨b, 0, none⟩)) ∧ F = (b :: F1) ++ F2 ∧ w.heap[b]? = some (.cells cs.toArray el (0, 0)) ∧ Rep Z w τ x.1 cs F1 ∧ IoRep Z w ps x.2 vs.tail F2

structure Post (Z : Nat → Prop) (w : World) (Fs : List Nat) (F : FunE) (vs : List Value) (r : ((F.outs ++ (F.ins.filter (·.1)).map (·.2)).foldr Ty.pair .unit).den) (v : Value) (w' : World) (Z' : Nat → Prop) (us : List Value) (Fr Fi : List Nat) : Prop where
 kp : Kept Fs w w'
 zs : ∀ b, Z b → Z' b
 zl : ∀ b, Z' b → b < w'.heap.size
 zi : ∀ b, Z' b → b < w.heap.size → Z b ∨ b ∈ Fs
 res : ResL Z' w' F.outs (splitRes F.outs _ r).1 us Fr
 v : v = tupOf us
 io : IoRep Z' w' F.ins (splitRes F.outs _ r).2 vs Fi
 nd : (Fi ++ Fr).Nodup
 nz : ∀ b ∈ Fi ++ Fr, ¬ Z' b ∧ b < w'.heap.size ∧ (b < w.heap.size → b ∈ Fs)
def FunOk (P : Program) (f : FuncId) (F : FunE) : Prop := ∀ (Z : Nat → Prop) (w : World) (xs : (F.ins.foldr (fun p t => Ty.pair p.2 t) .unit).den) (vs : List Value) (Fs : List Nat) (r : ((F.outs ++ (F.ins.filter (·.1)).map (·.2)).foldr Ty.pair .unit).den),
 (∀ b, Z b → b < w.heap.size) → ArgsRep Z w F.ins xs vs Fs → Fs.Nodup → (∀ b ∈ Fs, ¬ Z b ∧ b < w.heap.size) → F.f xs = some r →
 Calls P f vs.toArray w fun e w' => ∃ v Z' us Fr Fi, e = .returned v ∧ Post Z w Fs F vs r v w' Z' us Fr Fi

section
variable {P : Program} {B : Base} {m m' m0 : Md} {H H' : Hp} {w w' : World} {o : Oper} {a : Act} {E : Env} {tab : Nat → Option TI} {L : List Nat} {Z1 : Nat → Prop} {Hs : Hp}

theorem slAs_ok {e' e : Ty} {xs : List e'.den} {ys : List e.den} (h : slAs e' e xs = some ys) : e'.pure = true ∧ castTo (.sl e') (.sl e) xs = some ys := by
 unfold slAs at h
 split at h
 ·rename_i hp; exact ⟨hp, h⟩
 ·cases h
def Sub (Hs H : Hp) : Prop := ∀ id, Hs id = .absent ∨ Hs id = H id
theorem Sub.get {Hs H : Hp} (h : Sub Hs H) {id : Nat} {c : Cell} (hc : Hs id = c) (hn : c ≠ .absent) : H id = c := by
 rcases h id with e | e
 ·exact absurd (hc.symm.trans e) hn
 ·rw [← e]; exact hc
theorem Sub.refl (H : Hp) : Sub H H := fun _ => .inr rfl
theorem only_sub {L : List Nat} {H : Hp} : Sub (only H L) H := fun id => by
 unfold only
 split
 ·exact .inr rfl
 ·exact .inl rfl
theorem as_ok (hS : Sub Hs H) (hh : HOk B m H w) {τ : Ty} {l : LV} {x : τ.den} {c : Value} (h : l.as (Hs) τ = some x) (hl : LRep m w H l c) (h1 : τ.one = true) (hz : ∀ b, m.Z b → Z1 b) (hr : ∀ id ∈ slRd l, (H id).Live → ∀ b ∈ m.ft id, Z1 b) : Rep Z1 w τ x [c] [] := by
 have fr : ∀ {τ : Ty} {x : τ.den} {cs : List Value}, Rep m.Z w τ x cs [] → Rep Z1 w τ x cs [] := fun h => h.frame (fun _ _ => rfl) hz (by simp)
 unfold LV.as at h
 split at h
 ·obtain ⟨e, he⟩ := castTo_eq h
  subst e; subst he; exact fr hl
 ·split at h
  ·cases h
   simp only [LRep] at hl
   subst hl
   exact ⟨rfl, by simp, none, 0, rfl, by simp, .inl rfl⟩
  ·cases h
   simp only [LRep] at hl
   subst hl
   exact ⟨by simp, none, 0, [], [], [], rfl, by simp, rfl, ⟨rfl, rfl⟩, .inl ⟨rfl, rfl, rfl, rfl⟩⟩
  ·cases h
   simp only [LRep] at hl
   subst hl
   exact ⟨rfl, rfl⟩
  ·cases h
   simp only [LRep] at hl
   subst hl
   exact ⟨fun _ => rfl, rfl, by simp, none, 0, rfl, by simp, .inl rfl⟩
  ·cases h
 ·rename_i id
  split at h
  ·split at h
   ·rename_i e' xs hx
    obtain ⟨hp, hc⟩ := slAs_ok h
    obtain ⟨e, he⟩ := castTo_eq hc
    cases e; subst he
    have hx := hS.get hx (by simp)
    have hL : (H id).Live := by rw [hx]; trivial
    have hcr := hh.cr id
    rw [hx] at hcr
    rw [hl.2.1 _ _ hx]
    exact Rep.vec_sl hp hcr hz (hr id (by simp [slRd]) hL)
   ·rename_i e' xs hx
    obtain ⟨hp, hc⟩ := slAs_ok h
    obtain ⟨e, he⟩ := castTo_eq hc
    cases e; subst he
    have hx := hS.get hx (by simp)
    have hcr := hh.cr id
    rw [hx] at hcr
    rw [hl.2.2 _ _ hx]
    exact fr hcr
   ·cases h
  ·cases h
 ·rename_i e' xs
  obtain ⟨e, he⟩ := castTo_eq h
  subst e; subst he; exact fr (τ := .sl e') hl
 ·rename_i id
  split at h
  ·split at h
   ·rename_i k' e' mm hx
    obtain ⟨e, he⟩ := castTo_eq h
    cases e; subst he
    have hx := hS.get hx (by simp)
    have hL : (H id).Live := by rw [hx]; trivial
    have hcr := hh.cr id
    rw [hx] at hcr
    rw [hl.2.1 _ _ _ hx]
    exact Rep.map_fmap hcr hz (hr id (by simp [slRd]) hL)
   ·rename_i k' e' mm hx
    obtain ⟨e, he⟩ := castTo_eq h
    cases e; subst he
    have hx := hS.get hx (by simp)
    have hcr := hh.cr id
    rw [hx] at hcr
    rw [hl.2.2 _ _ _ hx]
    exact fr hcr
   ·cases h
  ·cases h
 ·rename_i id g off
  split at h
  ·split at h
   ·rename_i g' ls hx
    split at h
    ·rename_i e' xs hg hls
     obtain ⟨hp, hc⟩ := slAs_ok h
     obtain ⟨e, he⟩ := castTo_eq hc
     cases e; subst he
     obtain rfl := Nat.eq_of_beq_eq_true hg
     have hx := hS.get hx (by simp)
     have hL : (H id).Live := by rw [hx]; trivial
     obtain ⟨b, u, G, k1, k2, k3, k4⟩ := cells_leaf hh hx hls
     obtain ⟨b', k5, k6⟩ := hl.2.2 _ _ _ hx hls
     rw [k1] at k5; cases k5
     rw [k2] at k6; cases k6
     exact Rep.vec_sl hp k3 hz fun b hb => hr id (by simp [slRd]) hL b (k4 b hb)
    ·cases h
   ·cases h
  ·cases h
 ·cases h
theorem asm1_ok (hS : Sub Hs H) (hh : HOk B m H w) {τ : Ty} (h1 : τ.one = true) {ls r : List LV} {x : τ.den} {cs : List Value} (h : asm1 (Hs) τ ls = some (x, r)) (hl : All2 (LRep m w H) ls cs) (hz : ∀ b, m.Z b → Z1 b) (hr : ∀ id ∈ slRds ls, (H id).Live → ∀ b ∈ m.ft id, Z1 b) :
 ∃ c1 c2, cs = c1 ++ c2 ∧ Rep Z1 w τ x c1 [] ∧ All2 (LRep m w H) r c2 ∧ ∀ id ∈ slRds r, id ∈ slRds ls := by
 cases ls with
 | nil => cases h
 | cons l ls =>
  cases cs with
  | nil => exact hl.elim
  | cons c cs =>
   simp only [asm1] at h
   split at h
   ·rename_i y hy
    cases h
    exact ⟨[c], cs, rfl, as_ok hS hh hy hl.1 h1 hz (fun id hid => hr id (by simp [slRds, hid])), hl.2, fun id hid => by simp [slRds, hid]⟩
   ·cases h
theorem asm_ok (hS : Sub Hs H) (hh : HOk B m H w) (hz : ∀ b, m.Z b → Z1 b) : ∀ {τ : Ty} {ls r : List LV} {x : τ.den} {cs : List Value}, asm (Hs) τ ls = some (x, r) → All2 (LRep m w H) ls cs → (∀ id ∈ slRds ls, (H id).Live → ∀ b ∈ m.ft id, Z1 b) →
 ∃ c1 c2, cs = c1 ++ c2 ∧ Rep Z1 w τ x c1 [] ∧ All2 (LRep m w H) r c2 ∧ ∀ id ∈ slRds r, id ∈ slRds ls := by
 intro τ
 induction τ with
 | unit => intro ls r x cs h hl hr; cases h; exact ⟨[], cs, rfl, ⟨rfl, rfl⟩, hl, fun _ h => h⟩
 | pair a b iha ihb =>
  intro ls r x cs h hl hr
  simp only [asm] at h
  split at h
  ·rename_i y ls' h1
   split at h
   ·rename_i z ls'' h2
    cases h
    obtain ⟨c1, c2, e1, g1, g2, g3⟩ := iha h1 hl hr
    obtain ⟨c3, c4, e2, g4, g5, g6⟩ := ihb h2 g2 fun id hid => hr id (g3 id hid)
    exact ⟨c1 ++ c3, c4, by rw [e1, e2, List.append_assoc], ⟨c1, c3, [], [], rfl, rfl, g1, g4⟩, g5, fun id hid => g3 id (g6 id hid)⟩
   ·cases h
  ·cases h
 | bool => intro ls r x cs h hl hr; exact asm1_ok hS hh rfl h hl hz hr
 | int k => intro ls r x cs h hl hr; exact asm1_ok hS hh rfl h hl hz hr
 | str => intro ls r x cs h hl hr; exact asm1_ok hS hh rfl h hl hz hr
 | sl e _ => intro ls r x cs h hl hr; exact asm1_ok hS hh rfl h hl hz hr
 | vec e _ => intro ls r x cs h hl hr; exact asm1_ok hS hh rfl h hl hz hr
 | map k e _ _ => intro ls r x cs h hl hr; exact asm1_ok hS hh rfl h hl hz hr
 | fnv f => intro ls r x cs h hl hr; exact asm1_ok hS hh rfl h hl hz hr
 | nil => intro ls r x cs h hl hr; exact asm1_ok hS hh rfl h hl hz hr
 | ptr e _ => intro ls r x cs h hl hr; exact asm1_ok hS hh rfl h hl hz hr
 | fmap k e _ _ => intro ls r x cs h hl hr; exact asm1_ok hS hh rfl h hl hz hr
 | mapb k e _ _ => intro ls r x cs h hl hr; exact asm1_ok hS hh rfl h hl hz hr
 | nsl e _ => intro ls r x cs h hl hr; exact asm1_ok hS hh rfl h hl hz hr
theorem asmAll_ok (hS : Sub Hs H) (hh : HOk B m H w) (hz : ∀ b, m.Z b → Z1 b) {τ : Ty} {ls : List LV} {x : τ.den} {cs : List Value} (h : asmAll (Hs) τ ls = some x) (hl : All2 (LRep m w H) ls cs) (hr : ∀ id ∈ slRds ls, (H id).Live → ∀ b ∈ m.ft id, Z1 b) : Rep Z1 w τ x cs [] := by
 unfold asmAll at h
 split at h
 ·rename_i y h1
  cases h
  obtain ⟨c1, c2, e, g1, g2, _⟩ := asm_ok hS hh hz h1 hl hr
  cases c2 with
  | nil => rw [e, List.append_nil]; exact g1
  | cons _ _ => exact g2.elim
 ·cases h

theorem ownIn_ok (hS : Sub Hs H) (hh : HOk B m H w) (hz : ∀ b, m.Z b → Z1 b) {τ : Ty} {g : Bool} {ls : List LV} {x : τ.den} {v : Value} (h : ownIn (Hs) τ g ls = some x) (hv : PRep m w H (g, ls) v) (hr : ∀ id ∈ argRd false τ (.val g ls), (H id).Live → ∀ b ∈ m.ft id, Z1 b) :
 (∃ cs, IsV (!τ.one) cs v ∧ Rep Z1 w τ x cs ((ownArg false τ (.val g ls)).flatMap m.ft)) ∧ ∀ id ∈ ownArg false τ (.val g ls), (H id).Live := by
 unfold ownIn at h
 split at h
 ·rename_i hg
  have hg : g = !τ.one := by simpa using hg
  split at h
  ·rename_i e id hg1
   split at h
   ·rename_i e' xs hx
    obtain ⟨he, hxs⟩ := castTo_eq h
    cases he
    have hxs : xs = x := hxs
    subst hxs
    obtain ⟨cs, h1, h2⟩ := hv
    have h1 : IsV g cs v := h1
    have h2 : All2 (LRep m w H) [.row id] cs := h2
    have hx := hS.get hx (by simp)
    have hL : (H id).Live := by rw [hx]; trivial
    have hg0 : g = false := hg
    subst hg0
    have hv1 := AVRep.one (v := v) (m := m) (w := w) (H := H) (l := .row id) ⟨cs, h1, h2⟩
    have hcr := hh.cr id
    rw [hx] at hcr
    refine ⟨⟨[v], rfl, ?_⟩, ?_⟩
    ·simp only [ownArg, List.flatMap_cons, List.flatMap_nil, List.append_nil]
     rw [hv1.2.1 _ _ hx]
     exact Rep.frame (fun _ _ => rfl) hz (fun _ _ => rfl) hcr
    ·simp [ownArg, hL]
   ·cases h
  ·rename_i k e id hg1
   split at h
   ·rename_i g0 k' e' mm hx
    obtain ⟨he, hxs⟩ := castTo_eq h
    cases he
    have hxs : mm = x := hxs
    subst hxs
    obtain ⟨cs, h1, h2⟩ := hv
    have h1 : IsV g cs v := h1
    have h2 : All2 (LRep m w H) [.mbr id] cs := h2
    have hx := hS.get hx (by simp)
    have hL : (H id).Live := by rw [hx]; trivial
    have hg0 : g = false := hg
    subst hg0
    have hv1 := AVRep.one (v := v) (m := m) (w := w) (H := H) (l := .mbr id) ⟨cs, h1, h2⟩
    have hcr := hh.cr id
    rw [hx] at hcr
    refine ⟨⟨[v], rfl, ?_⟩, ?_⟩
    ·simp only [ownArg, List.flatMap_cons, List.flatMap_nil, List.append_nil]
     rw [hv1.2 _ _ _ _ _ hx]
     obtain ⟨b, ents, clock, F', q1, q2, q3, q4, q5⟩ := hcr
     refine Rep.frame (τ := .mapb k e) (fun _ _ => rfl) hz (fun _ _ => rfl) ⟨b, ents, clock, F', by rw [q1], q2, q3, q4, q5⟩
    ·simp [ownArg, hL]
   ·cases h
  ·rename_i hne hne2
   have ho : ownArg false τ (.val g ls) = [] := by
    unfold ownArg
    split
    ·rfl
    ·rename_i id heq
     simp only [AV.val.injEq] at heq
     obtain ⟨_, rfl⟩ := heq
     split
     ·exact absurd rfl (hne _ _ rfl)
     ·rfl
    ·rename_i id heq
     simp only [AV.val.injEq] at heq
     obtain ⟨_, rfl⟩ := heq
     split
     ·exact absurd rfl (hne2 _ _ _ rfl)
     ·rfl
    ·rfl
   have ho2 : argRd false τ (.val g ls) = slRds ls := by unfold argRd; rw [ho]
   rw [ho2] at hr
   rw [ho]
   obtain ⟨cs, h1, h2⟩ := hv
   exact ⟨⟨cs, by rw [← hg]; exact h1, asmAll_ok hS hh hz h h2 hr⟩, by simp⟩
 ·cases h
end
end Go.Proofs.Ytadhpgecilhgnaa.A

-- YtadhpgecilhgnaaFn2
set_option linter.unusedVariables false
set_option linter.unusedSimpArgs false
namespace Go.Proofs.Ytadhpgecilhgnaa.A
open Go
section
variable {P : Program} {B : Base} {m m' m0 : Md} {H H' : Hp} {w w' : World} {o : Oper} {a : Act} {E : Env} {tab : Nat → Option TI} {T : Nat → Option FunE} {L : List Nat} {Z1 Zf : Nat → Prop}

theorem args_ok (hh : HOk B m H w) (hz : ∀ b, m.Z b → Z1 b) : ∀ {ps : List (Bool × Ty)} {as_ : List AV} {vs : List Value} {xs : (ps.foldr (fun p t => Ty.pair p.2 t) .unit).den}, argsIn (only H L) ps as_ = some xs → All2 (AVRep m w H) as_ vs →
 (∀ id ∈ rdIds ps as_, (H id).Live → ∀ b ∈ m.ft id, Z1 b) → ArgsRep Z1 w ps xs vs ((argOwns ps as_).flatMap m.ft) ∧ ∀ id ∈ argOwns ps as_, (H id).Live
 | [], [], vs, xs, _, hv, _ => by
  have : vs = [] := by cases vs with | nil => rfl | cons _ _ => exact hv.elim
  subst this
  exact ⟨⟨rfl, rfl⟩, by simp [argOwns]⟩
 | [], _ :: _, _, _, h, _, _ => by cases h
 | _ :: _, [], _, _, h, _, _ => by cases h
 | p :: ps, a :: as_, [], _, _, hv, _ => hv.elim
 | p :: ps, a :: as_, v :: vs, xs, h, hv, hr => by
  simp only [argsIn] at h
  split at h
  ·rename_i x xs' hx hxs
   cases h
   obtain ⟨g1, g2⟩ := args_ok hh hz hxs hv.2 fun id hid => hr id (by simp [rdIds, hid])
   have hr1 : ∀ id ∈ argRd p.1 p.2 a, (H id).Live → ∀ b ∈ m.ft id, Z1 b := fun id hid => hr id (by simp [rdIds, hid])
   have key : ArgRep Z1 w p.1 p.2 x v ((ownArg p.1 p.2 a).flatMap m.ft) ∧ ∀ id ∈ ownArg p.1 p.2 a, (H id).Live := by
    obtain ⟨io, τ⟩ := p
    simp only at hx hr1 ⊢
    unfold argIn at hx
    split at hx
    ·rename_i id _
     split at hx
     ·rename_i g ls hc
      have hc := live_of_only hc
      have hL : (H id).Live := by rw [hc]; trivial
      have hcr := hh.cr id
      rw [hc] at hcr
      obtain ⟨b, el, cs, F', k1, k2, k3, k4⟩ := hcr
      obtain ⟨b', k5, k6⟩ := (AVRep.one hv.1).2 _ _ hc
      rw [k1] at k5; cases k5
      refine ⟨⟨b, el, cs, F', k6, by simp [ownArg, k2], k3, Rep.frame (fun _ _ => rfl) hz (fun _ _ => rfl) (asmAllO hx k4)⟩, by simp [ownArg, hL]⟩
     ·cases hx
    ·rename_i g ls
     exact ownIn_ok only_sub hh hz hx hv.1 hr1
    ·cases hx
   refine ⟨⟨v, vs, _, _, rfl, ?_, key.1, g1⟩, fun id hid => ?_⟩
   ·simp [argOwns, List.flatMap_append]
   ·simp only [argOwns, List.mem_append] at hid
    exact hid.elim (key.2 id) (g2 id)
  ·cases h

structure Upd where
 id : Nat
 ob : Obj
 hd : Value
 F : List Nat
def Md.sets (m : Md) (Z : Nat → Prop) (us : List Upd) : Md :=
 { Z := Z, hd := fun k => (match us.find? (fun u => u.id == k) with | some u => u.hd | none => m.hd k), ft := fun k => (match us.find? (fun u => u.id == k) with | some u => u.F | none => m.ft k) }
theorem find_upd : ∀ {us : List Upd}, (us.map (·.id)).Nodup → ∀ {u : Upd}, u ∈ us → us.find? (fun v => v.id == u.id) = some u
 | v :: us, hn, u, hu => by
  simp only [List.map_cons, List.nodup_cons] at hn
  rcases List.mem_cons.1 hu with rfl | hu
  ·simp
  ·have : v.id ≠ u.id := fun e => hn.1 (e ▸ List.mem_map.2 ⟨u, hu, rfl⟩)
   rw [List.find?_cons_of_neg (by simpa using this)]
   exact find_upd hn.2 hu
theorem sets_in {us : List Upd} (hn : (us.map (·.id)).Nodup) {u : Upd} (hu : u ∈ us) : (m.sets Z1 us).hd u.id = u.hd ∧ (m.sets Z1 us).ft u.id = u.F := by
 simp only [Md.sets, find_upd hn hu, and_self]
theorem sets_out {us : List Upd} {k : Nat} (hk : k ∉ us.map (·.id)) : (m.sets Z1 us).hd k = m.hd k ∧ (m.sets Z1 us).ft k = m.ft k := by
 have : us.find? (fun u => u.id == k) = none := by
  rw [List.find?_eq_none]
  intro u hu he
  exact hk (List.mem_map.2 ⟨u, hu, by simpa using he⟩)
 simp only [Md.sets, this, and_self]

theorem flatB_rep {Z Z' : Nat → Prop} {w w' : World} : ∀ {τ : Ty} {x : τ.den} {cs : List Value} {F : List Nat}, τ.flatB = true → Rep Z w τ x cs F → Rep Z' w' τ x cs F := by
 intro τ
 induction τ with
 | pair a b iha ihb =>
  intro x cs F hf ⟨c1, c2, F1, F2, h1, h2, h3, h4⟩
  simp only [Ty.flatB, Bool.and_eq_true] at hf
  exact ⟨c1, c2, F1, F2, h1, h2, iha hf.1 h3, ihb hf.2 h4⟩
 | sl e _ => intro x cs F hf; cases hf
 | vec e _ => intro x cs F hf; cases hf
 | map k e _ _ => intro x cs F hf; cases hf
 | fmap k e _ _ => intro x cs F hf; cases hf
 | mapb k e _ _ => intro x cs F hf; cases hf
 | nsl e _ => intro x cs F hf; cases hf
 | unit => intro x cs F _ h; exact h
 | bool => intro x cs F _ h; exact h
 | int k => intro x cs F _ h; exact h
 | str => intro x cs F _ h; exact h
 | fnv f => intro x cs F _ h; exact h
 | nil => intro x cs F _ h; exact h
 | ptr e _ => intro x cs F hf; cases hf
theorem ResL.flat {Z Z' : Nat → Prop} {w w' : World} : ∀ {outs : List Ty} {x : (outs.foldr Ty.pair .unit).den} {us : List Value} {F : List Nat}, outs.all Ty.flatB = true → ResL Z w outs x us F → ResL Z' w' outs x us F
 | [], _, _, _, _, h => h
 | τ :: outs, x, us, F, hf, ⟨v, vs', F1, F2, h1, h2, ⟨cs, h3, h4⟩, h5⟩ => by
  rw [List.all_cons, Bool.and_eq_true] at hf
  exact ⟨v, vs', F1, F2, h1, h2, ⟨cs, h3, flatB_rep hf.1 h4⟩, ResL.flat hf.2 h5⟩
theorem IoRep.flat {Z Z' : Nat → Prop} {w : World} : ∀ {ps : List (Bool × Ty)} {x : (((ps.filter (·.1)).map (·.2)).foldr Ty.pair .unit).den} {vs : List Value} {F : List Nat}, (ps.all fun p => !p.1 || p.2.flatB) = true → IoRep Z w ps x vs F → IoRep Z' w ps x vs F
 | [], _, _, _, _, h => h
 | (false, _) :: ps, x, vs, F, hf, h => by
  rw [List.all_cons, Bool.and_eq_true] at hf
  exact IoRep.flat (ps := ps) hf.2 h
 | (true, τ) :: ps, x, vs, F, hf, ⟨b, el, cs, F1, F2, h1, h2, h3, h4, h5⟩ => by
  rw [List.all_cons, Bool.and_eq_true] at hf
  exact ⟨b, el, cs, F1, F2, h1, h2, h3, flatB_rep (by simpa using hf.1) h4, IoRep.flat (ps := ps) hf.2 h5⟩

theorem res_ok {d : Nat} : ∀ {j : Nat} {outs : List Ty} {x : (outs.foldr Ty.pair .unit).den} {us : List Value} {F : List Nat}, (outs.all fun τ => τ.pure || τ.vecP || τ.mapP) = true → ResL Zf w outs x us F →
 ∃ ups : List Upd, ups.map (·.id) = resIds d j outs ∧ ups.map (fun u => (u.id, Cell.live u.ob)) = (resAll d j outs x).2 ∧ ups.flatMap (·.F) = F ∧ (∀ u ∈ ups, ORep Zf w u.ob u.hd u.F) ∧
  ∀ (m' : Md) (H' : Hp), m'.Z = Zf → (∀ u ∈ ups, m'.hd u.id = u.hd ∧ H' u.id = .live u.ob) → All2 (PRep m' w H') (resAll d j outs x).1 us
 | _, [], _, _, _, _, ⟨h1, h2⟩ => by subst h1; subst h2; exact ⟨[], rfl, rfl, rfl, by simp, fun _ _ _ _ => trivial⟩
 | j, τ :: outs, x, us, F, hp, ⟨v, vs', F1, F2, h1, h2, ⟨cs, h3, h4⟩, h5⟩ => by
  rw [List.all_cons, Bool.and_eq_true] at hp
  subst h1; subst h2
  obtain ⟨ups, k1, k2, k3, k4, k5⟩ := res_ok (d := d) (j := j + 1) hp.2 h5
  have plain : τ.pure = true → resLeaves (d + 100000 * j) τ x.1 = ((!τ.one, flat τ x.1), []) → resIds d j (τ :: outs) = resIds d (j + 1) outs → ∃ ups : List Upd, ups.map (·.id) = resIds d j (τ :: outs) ∧ ups.map (fun u => (u.id, Cell.live u.ob)) = (resAll d j (τ :: outs) x).2 ∧ ups.flatMap (·.F) = F1 ++ F2 ∧ (∀ u ∈ ups, ORep Zf w u.ob u.hd u.F) ∧
   ∀ (m' : Md) (H' : Hp), m'.Z = Zf → (∀ u ∈ ups, m'.hd u.id = u.hd ∧ H' u.id = .live u.ob) → All2 (PRep m' w H') (resAll d j (τ :: outs) x).1 (v :: vs') := by
   intro hpu hl hi
   have hF1 := h4.pure hpu
   subst hF1
   refine ⟨ups, by rw [hi]; exact k1, ?_, by simpa using k3, k4, fun m' H' e1 e2 => ?_⟩
   ·simp only [resAll, hl, List.nil_append]; exact k2
   ·simp only [resAll, hl]
    refine ⟨⟨cs, h3, flat_all2 (m := m') (H := H') (by rw [e1]; exact h4)⟩, k5 m' H' e1 e2⟩
  cases τ with
  | vec e =>
   have h3 : cs = [v] := h3
   subst h3
   refine ⟨⟨d + 100000 * j, .row e x.1, v, F1⟩ :: ups, by simp [resIds, k1], ?_, by simp [k3], ?_, fun m' H' e1 e2 => ?_⟩
   ·simp only [resAll, resLeaves, List.map_cons, List.singleton_append, k2]
   ·intro u hu
    rcases List.mem_cons.1 hu with rfl | hu
    ·exact h4
    ·exact k4 u hu
   ·obtain ⟨q1, q2⟩ := e2 _ (List.mem_cons_self ..)
    simp only at q1 q2
    simp only [resAll, resLeaves]
    refine ⟨⟨[v], rfl, ⟨by rw [q2]; simp, fun _ _ _ => q1.symm, fun _ _ _ => q1.symm⟩, trivial⟩, k5 m' H' e1 fun u hu => e2 u (by simp [hu])⟩
  | pair a b => exact plain (by simpa [Ty.vecP, Ty.mapP] using hp.1) rfl rfl
  | unit => exact plain rfl rfl rfl
  | bool => exact plain rfl rfl rfl
  | int k => exact plain rfl rfl rfl
  | str => exact plain rfl rfl rfl
  | sl e => exact plain (by simpa [Ty.vecP, Ty.mapP] using hp.1) rfl rfl
  | nsl e => exact plain (by simpa [Ty.vecP, Ty.mapP] using hp.1) rfl rfl
  | map k e => simp [Ty.pure, Ty.vecP, Ty.mapP] at hp
  | fnv f => exact plain rfl rfl rfl
  | nil => exact plain rfl rfl rfl
  | fmap k e => exact plain rfl rfl rfl
  | ptr e => simp [Ty.pure, Ty.vecP, Ty.mapP] at hp
  | mapb k e =>
   have h3 : cs = [v] := h3
   subst h3
   refine ⟨⟨d + 100000 * j, .mapb 0 k e x.1 none, v, F1⟩ :: ups, by simp [resIds, k1], ?_, by simp [k3], ?_, fun m' H' e1 e2 => ?_⟩
   ·simp only [resAll, resLeaves, List.map_cons, List.singleton_append, k2]
   ·intro u hu
    rcases List.mem_cons.1 hu with rfl | hu
    ·obtain ⟨b, ents, clock, F', q1, q2, q3, q4, q5⟩ := h4
     exact ⟨b, ents, clock, F', by simpa using q1, q2, q3, q4, q5⟩
    ·exact k4 u hu
   ·obtain ⟨q1, q2⟩ := e2 _ (List.mem_cons_self ..)
    simp only at q1 q2
    simp only [resAll, resLeaves]
    refine ⟨⟨[v], rfl, ⟨by rw [q2]; simp, fun _ _ _ _ _ _ => q1.symm⟩, trivial⟩, k5 m' H' e1 fun u hu => e2 u (by simp [hu])⟩

theorem io_ok (hh : HOk B m H w) : ∀ {ps : List (Bool × Ty)} {as_ : List AV} {vs : List Value} {xs : (ps.foldr (fun p t => Ty.pair p.2 t) .unit).den} {x : (((ps.filter (·.1)).map (·.2)).foldr Ty.pair .unit).den} {F : List Nat},
 argsIn (only H L) ps as_ = some xs → All2 (AVRep m w H) as_ vs → IoRep Zf w' ps x vs F →
 (outsOf (only H L) ps as_ x).map (·.1) = argOwns ps as_ ∧ ∃ us : List Upd, (∀ u ∈ us, (u.id, Cell.live u.ob) ∈ outsOf (only H L) ps as_ x) ∧ (∀ p ∈ outsOf (only H L) ps as_ x, p.2 = .dead ∨ ∃ u ∈ us, p = (u.id, .live u.ob)) ∧
  us.flatMap (·.F) = F ∧ (∀ u ∈ us, ORep Zf w' u.ob u.hd u.F ∧ u.hd = m.hd u.id ∧ ∃ g ls ls', H u.id = .live (.cells g ls) ∧ u.ob = .cells (g + 1) ls') ∧ (us.map (·.id)).Sublist (argOwns ps as_)
 | [], [], vs, xs, x, F, _, _, hF => by
  have hF : F = [] := hF
  subst hF
  exact ⟨rfl, [], by simp, by simp [outsOf], rfl, by simp, by simp [argOwns]⟩
 | [], _ :: _, _, _, _, _, h, _, _ => by cases h
 | _ :: _, [], _, _, _, _, h, _, _ => by cases h
 | p :: ps, a :: as_, [], _, _, _, _, hv, _ => hv.elim
 | (false, τ) :: ps, a :: as_, v :: vs, xs, x, F, h, hv, hi => by
  simp only [argsIn] at h
  split at h
  ·rename_i y xs' hy hxs
   obtain ⟨g1, us, g2, g3, g4, g5, g6⟩ := io_ok hh hxs hv.2 (show IoRep Zf w' ps x vs F from hi)
   refine ⟨?_, us, fun u hu => ?_, fun q hq => ?_, g4, g5, ?_⟩
   ·simp only [outsOf, argOwns, List.map_append, g1]
    congr 1
    rw [List.map_map]
    exact List.map_id _
   ·simp only [outsOf]; exact List.mem_append_right _ (g2 u hu)
   ·simp only [outsOf, List.mem_append] at hq
    rcases hq with hq | hq
    ·obtain ⟨i, _, rfl⟩ := List.mem_map.1 hq
     exact .inl rfl
    ·exact g3 q hq
   ·simp only [argOwns]
    exact g6.trans (List.sublist_append_right _ _)
  ·cases h
 | (true, τ) :: ps, a :: as_, v :: vs, xs, x, F, h, hv, ⟨b, el, cs, F1, F2, h1, h2, h3, h4, h5⟩ => by
  simp only [argsIn] at h
  split at h
  ·rename_i y xs' hy hxs
   obtain ⟨g1, us, g2, g3, g4, g5, g6⟩ := io_ok hh hxs hv.2 (show IoRep Zf w' ps x.2 vs F2 from h5)
   simp only at hy
   unfold argIn at hy
   split at hy
   ·rename_i id _
    split at hy
    ·rename_i g ls hc
     have hce := hc
     have hc := live_of_only hc
     have hcr := hh.cr id
     rw [hc] at hcr
     obtain ⟨b', el', cs', F', k1, k2, k3, k4⟩ := hcr
     obtain ⟨b'', k5, k6⟩ := (AVRep.one hv.1).2 _ _ hc
     rw [k1] at k5; cases k5
     simp only [List.head?_cons, Option.some.injEq] at h1
     rw [k6] at h1; cases h1
     have hver : verOf (only H L id) = g := by rw [hce]; rfl
     refine ⟨?_, ⟨id, .cells (g + 1) (flat τ x.1), m.hd id, b :: F1⟩ :: us, fun u hu => ?_, fun q hq => ?_, ?_, fun u hu => ?_, ?_⟩
     ·simp only [outsOf, argOwns, ownArg, List.map_cons, g1, List.singleton_append]
     ·rcases List.mem_cons.1 hu with rfl | hu
      ·simp only [outsOf, hver]; exact List.mem_cons_self ..
      ·simp only [outsOf]; exact List.mem_cons_of_mem _ (g2 u hu)
     ·simp only [outsOf, hver] at hq
      rcases List.mem_cons.1 hq with rfl | hq
      ·exact .inr ⟨_, List.mem_cons_self .., rfl⟩
      ·exact (g3 q hq).imp_right fun ⟨u, u1, u2⟩ => ⟨u, List.mem_cons_of_mem _ u1, u2⟩
     ·simp [g4, h2]
     ·rcases List.mem_cons.1 hu with rfl | hu
      ·exact ⟨⟨b, el, cs, F1, k1, rfl, h3, flat_ok h4⟩, rfl, g, ls, _, hc, rfl⟩
      ·exact g5 u hu
     ·simp only [argOwns, ownArg, List.map_cons, List.singleton_append]
      exact g6.cons_cons _
    ·cases hy
   ·contradiction
   ·cases hy
  ·cases h
end
end Go.Proofs.Ytadhpgecilhgnaa.A

-- YtadhpgecilhgnaaFn3
set_option linter.unusedVariables false
set_option linter.unusedSimpArgs false
namespace Go.Proofs.Ytadhpgecilhgnaa.A
open Go
section
variable {P : Program} {B : Base} {m m' m0 : Md} {H H' : Hp} {w w' : World} {o : Oper} {a : Act} {E : Env} {tab : Nat → Option TI} {T : Nat → Option FunE} {L : List Nat} {Z1 Zf : Nat → Prop}

theorem keys_one : ∀ {l : List (Nat × Cell)}, (l.map (·.1)).Nodup → ∀ {p q : Nat × Cell}, p ∈ l → q ∈ l → p.1 = q.1 → p = q
 | x :: l, hn, p, q, hp, hq, e => by
  simp only [List.map_cons, List.nodup_cons] at hn
  rcases List.mem_cons.1 hp with e1 | hp' <;> rcases List.mem_cons.1 hq with e2 | hq'
  ·rw [e1, e2]
  ·subst e1; exact absurd (List.mem_map.2 ⟨q, hq', e.symm⟩) hn.1
  ·subst e2; exact absurd (List.mem_map.2 ⟨p, hp', e⟩) hn.1
  ·exact keys_one hn.2 hp' hq' e
theorem putH_get : ∀ {ups : List (Nat × Cell)} {H : Hp} {k : Nat} {c : Cell}, (∀ p ∈ ups, p.1 = k → p.2 = c) → (∃ p ∈ ups, p.1 = k) → putH H ups k = c
 | [], _, _, _, _, ⟨_, h, _⟩ => by cases h
 | p :: ups, H, k, c, h, hx => by
  rw [putH]
  by_cases hk : ∃ q ∈ ups, q.1 = k
  ·exact putH_get (fun q hq => h q (by simp [hq])) hk
  ·rw [putH_notin (fun hm => hk (by obtain ⟨q, q1, q2⟩ := List.mem_map.1 hm; exact ⟨q, q1, q2⟩))]
   obtain ⟨q, q1, q2⟩ := hx
   rcases List.mem_cons.1 q1 with rfl | q1
   ·rw [← q2, upd_same]; exact h q (by simp) q2
   ·exact absurd ⟨q, q1, q2⟩ hk
theorem freeze_mem : ∀ {l : List Nat} {p : Nat × Cell}, p ∈ freezeUps H l → p.1 ∈ l ∧ Fz (H p.1) p.2
 | [], _, h => by simp [freezeUps] at h
 | id :: l, p, h => by
  unfold freezeUps at h
  split at h
  ·rename_i e xs hx
   rcases List.mem_cons.1 h with rfl | h
   ·exact ⟨by simp, .inl ⟨e, xs, hx, rfl⟩⟩
   ·obtain ⟨h1, h2⟩ := freeze_mem h
    exact ⟨by simp [h1], h2⟩
  ·rename_i k e mm hx
   rcases List.mem_cons.1 h with rfl | h
   ·exact ⟨by simp, .inr ⟨k, e, mm, hx, rfl⟩⟩
   ·obtain ⟨h1, h2⟩ := freeze_mem h
    exact ⟨by simp [h1], h2⟩
  ·obtain ⟨h1, h2⟩ := freeze_mem h
   exact ⟨by simp [h1], h2⟩
theorem freeze_of : ∀ {l : List Nat} {r : Nat} {c : Cell}, r ∈ l → Fz (H r) c → (r, c) ∈ freezeUps H l
 | id :: l, r, c, h, hx => by
  unfold freezeUps
  rcases List.mem_cons.1 h with rfl | h
  ·rcases hx with ⟨e, xs, h1, rfl⟩ | ⟨k, e, mm, h1, rfl⟩ <;> rw [h1] <;> exact List.mem_cons_self ..
  ·split
   ·exact List.mem_cons_of_mem _ (freeze_of h hx)
   ·exact List.mem_cons_of_mem _ (freeze_of h hx)
   ·exact freeze_of h hx
theorem rowish_live {c : Cell} (h : rowish c = true) (hl : c.Live) : ∃ c', Fz c c' := by
 cases c with
 | live ob =>
  cases ob with
  | row e xs => exact ⟨_, .inl ⟨e, xs, rfl, rfl⟩⟩
  | mapo k e mm => exact ⟨_, .inr ⟨k, e, mm, rfl, rfl⟩⟩
  | _ => cases h
 | _ => exact hl.elim
theorem flatMap_nodup {us : List Upd} (h : (us.flatMap (·.F)).Nodup) {u : Upd} (hu : u ∈ us) : u.F.Nodup := by
 induction us with
 | nil => cases hu
 | cons x us ih =>
  rw [List.flatMap_cons, List.nodup_append] at h
  rcases List.mem_cons.1 hu with rfl | hu
  ·exact h.1
  ·exact ih h.2.1 hu
theorem flatMap_disj {us : List Upd} (h : (us.flatMap (·.F)).Nodup) {u v : Upd} (hu : u ∈ us) (hv : v ∈ us) (hne : u ≠ v) {b : Nat} (hb : b ∈ u.F) : b ∉ v.F := by
 induction us with
 | nil => cases hu
 | cons x us ih =>
  rw [List.flatMap_cons, List.nodup_append] at h
  intro hbv
  rcases List.mem_cons.1 hu with e1 | hu' <;> rcases List.mem_cons.1 hv with e2 | hv'
  ·exact hne (e1.trans e2.symm)
  ·subst e1; exact h.2.2 b hb b (List.mem_flatMap.2 ⟨v, hv', hbv⟩) rfl
  ·subst e2; exact h.2.2 b hbv b (List.mem_flatMap.2 ⟨u, hu', hb⟩) rfl
  ·exact ih h.2.1 hu' hv' hbv
theorem avOf_ok {ps : List (Bool × List LV)} {us : List Value} (h : All2 (PRep m w H) ps us) : AVRep m w H (avOf ps) (tupOf us) := by
 match ps, us, h with
 | [], [], _ => exact ⟨[], rfl, trivial⟩
 | [(g, ls)], [u], h => exact h.1
 | p :: q :: ps, u :: v :: us, h =>
  have : avOf (p :: q :: ps) = .tup (p :: q :: ps) := by
   obtain ⟨g, ls⟩ := p; rfl
  rw [this]
  exact ⟨u :: v :: us, rfl, h⟩

theorem wCallF_ok {F : FunE} {f : FuncId} (hF : FunOk P f F) (hh : HOk B m H w) {as_ : List AV} {vs : List Value} (hv : All2 (AVRep m w H) as_ vs) (ex : (execOp a.eval o).run P w = .ok (.enter f vs.toArray) w) : WayOk P B m H w o a (wCallF F o.dst as_) := by
 intro Q hQ
 unfold wCallF at hQ
 simp only at hQ
 generalize hlends : (!(F.outs.all Ty.flatB && (F.ins.all fun p => !p.1 || p.2.flatB))) = lends at hQ
 generalize hrows : rdIds F.ins as_ = rows at hQ
 generalize howns : argOwns F.ins as_ = owns at hQ
 generalize hnews : resIds (o.dst.getD 99999) 0 F.outs = news at hQ
 generalize hLL : ((if lends = true then [] else rows) ++ (owns ++ news ++ if lends = true then rows else [])) = LL at hQ
 have hLo : ∀ i ∈ owns, i ∈ LL := fun i hi => by rw [← hLL]; simp [hi]
 have hLn : ∀ i ∈ news, i ∈ LL := fun i hi => by rw [← hLL]; simp [hi]
 have hLr : ∀ i ∈ rows, i ∈ LL := fun i hi => by rw [← hLL]; cases lends <;> simp [hi]
 split at hQ
 ·rename_i hc
  simp only [Bool.and_eq_true] at hc
  obtain ⟨⟨⟨⟨⟨c1, c2⟩, c3⟩, c4⟩, c5⟩, c6⟩ := hc
  have c1 := nodupN_iff.1 c1
  have c2 : ∀ i ∈ owns, i ∉ rows := fun i hi => by
   have := List.all_eq_true.1 c2 i hi
   exact memN_false.1 (by simpa using this)
  have c3 : ∀ i ∈ news, H i = .absent := fun i hi => absent_of (List.all_eq_true.1 c3 i hi) (hLn i hi)
  split at hQ
  ·rename_i xs hxs
   obtain ⟨r, hr, hQ⟩ := hQ
   have hQ : Q _ := hQ
   let Z1 : Nat → Prop := fun b => m.Z b ∨ ∃ id ∈ rows, (H id).Live ∧ b ∈ m.ft id
   obtain ⟨g1, g2⟩ := args_ok (Z1 := Z1) hh (fun b hb => .inl hb) hxs hv (fun id hid hl b hb => .inr ⟨id, by rw [← hrows]; exact hid, hl, hb⟩)
   rw [howns] at g1 g2
   have hnd := List.nodup_append.1 c1
   have hFs : ∀ b ∈ owns.flatMap m.ft, ¬ Z1 b ∧ b < w.heap.size := fun b hb => by
    obtain ⟨i, i1, i2, i3⟩ := ft_blk hb g2
    obtain ⟨n1, n2, _⟩ := hh.nz i i2 b i3
    refine ⟨fun hz => hz.elim n1 fun ⟨j, j1, j2, j3⟩ => ?_, n2⟩
    exact hh.sp i j (fun e => c2 i i1 (e ▸ j1)) i2 j2 b i3 j3
   have hZ1l : ∀ b, Z1 b → b < w.heap.size := fun b hb => hb.elim (hh.zl b) fun ⟨j, j1, j2, j3⟩ => (hh.nz j j2 b j3).2.1
   have call := hF Z1 w xs vs _ r hZ1l g1 (ft_nodup hh hnd.1 g2) hFs hr
   refine ⟨_, _, hQ, ?_⟩
   unfold OpOk
   rw [ex]
   refine call.mono fun e w' ⟨v, Z', us, Fr, Fi, he, p⟩ => ⟨v, he, ?_⟩
   let Zf : Nat → Prop := if lends = true then Z' else m.Z
   have hlz : lends = true → Zf = Z' := fun h => if_pos h
   have hnz : lends = false → Zf = m.Z := fun h => if_neg (by simp [h])
   have hfl : lends = false → F.outs.all Ty.flatB = true ∧ (F.ins.all fun p => !p.1 || p.2.flatB) = true := fun h => by
    rw [h] at hlends; simpa using hlends
   have hres : ResL Zf w' F.outs (splitRes F.outs _ r).1 us Fr := by
    cases hl : lends with
    | true => rw [hlz hl]; exact p.res
    | false => exact ResL.flat (hfl hl).1 p.res
   have hio : IoRep Zf w' F.ins (splitRes F.outs _ r).2 vs Fi := by
    cases hl : lends with
    | true => rw [hlz hl]; exact p.io
    | false => exact IoRep.flat (hfl hl).2 p.io
   have hZZ : ∀ b, Zf b → Z' b := fun b hb => by
    cases hl : lends with
    | true => rw [hlz hl] at hb; exact hb
    | false => rw [hnz hl] at hb; exact p.zs b (.inl hb)
   have hmZ : ∀ b, m.Z b → Zf b := fun b hb => by
    cases hl : lends with
    | true => rw [hlz hl]; exact p.zs b (.inl hb)
    | false => rw [hnz hl]; exact hb
   obtain ⟨ur, r1, r2, r3, r4, r5⟩ := res_ok (d := o.dst.getD 99999) (j := 0) c5 hres
   rw [hnews] at r1
   obtain ⟨o1, ui, o2, o3, o4, o5, o6⟩ := io_ok (Zf := Zf) hh hxs hv hio
   rw [howns] at o1 o6
   have hkp := p.kp
   have hold : ∀ b, b < w.heap.size → b ∉ owns.flatMap m.ft → w'.heap[b]? = w.heap[b]? := hkp.block
   have hui : ∀ u ∈ ui, u.id ∈ owns := fun u hu => o6.subset (List.mem_map.2 ⟨u, hu, rfl⟩)
   have hur : ∀ u ∈ ur, u.id ∈ news := fun u hu => by rw [← r1]; exact List.mem_map.2 ⟨u, hu, rfl⟩
   have hids : ((ui ++ ur).map (·.id)).Nodup := by
    rw [List.map_append, r1, List.nodup_append]
    exact ⟨hnd.1.sublist o6, hnd.2.1, fun x hx y hy => hnd.2.2 x (o6.subset hx) y hy⟩
   -- the objects behind the call
   generalize hO : outsOf (only H LL) F.ins as_ (splitRes F.outs _ r).2 = O at *
   generalize hN : (resAll (o.dst.getD 99999) 0 F.outs (splitRes F.outs _ r).1).2 = N at *
   generalize hFZ : (if lends = true then freezeUps (only H LL) rows else []) = FZ at *
   have hNk : N.map (·.1) = news := by rw [← r2, List.map_map, ← r1]; rfl
   have hFm : ∀ q ∈ FZ, q.1 ∈ rows ∧ Fz (H q.1) q.2 ∧ lends = true ∧ rowish (H q.1) = true := fun q hq => by
    rw [← hFZ] at hq
    split at hq
    ·rename_i hl
     obtain ⟨h1, h2⟩ := freeze_mem hq
     rw [only_eq (memN_iff.2 (hLr _ h1))] at h2
     rw [hl] at c6
     simp only [Bool.not_true, Bool.false_or] at c6
     have := List.all_eq_true.1 c6 q.1 h1
     rw [only_eq (memN_iff.2 (hLr _ h1))] at this
     exact ⟨h1, h2, hl, this⟩
    ·cases hq
   have hFo : ∀ i ∈ FZ.map (·.1), i ∈ rows := fun i hi => by
    obtain ⟨q, hq, rfl⟩ := List.mem_map.1 hi
    exact (hFm q hq).1
   have hOk : ∀ q ∈ O, q.1 ∈ owns := fun q hq => by rw [← o1]; exact List.mem_map.2 ⟨q, hq, rfl⟩
   have hNm : ∀ q ∈ N, q.1 ∈ news := fun q hq => by rw [← hNk]; exact List.mem_map.2 ⟨q, hq, rfl⟩
   have hnr : ∀ i ∈ news, i ∉ FZ.map (·.1) := fun i hi hf => by
    obtain ⟨q, hq, rfl⟩ := List.mem_map.1 hf
    have h2 := (hFm q hq).2.1.live
    rw [c3 _ hi] at h2; exact h2
   have hno : ∀ i ∈ news, i ∉ owns := fun i hi ho => hnd.2.2 i ho i hi rfl
   -- look-ups
   have hU : ∀ u ∈ ui ++ ur, putH H (O ++ N ++ FZ) u.id = .live u.ob := fun u hu => by
    rcases List.mem_append.1 hu with hu | hu
    ·have hid := hui u hu
     refine putH_get (fun q hq hqe => ?_) ⟨(u.id, .live u.ob), by simp [o2 u hu], rfl⟩
     simp only [List.mem_append] at hq
     rcases hq with (hq | hq) | hq
     ·rw [keys_one (by rw [o1]; exact hnd.1) hq (o2 u hu) hqe]
     ·exact absurd hid (hqe ▸ hno _ (hNm q hq))
     ·exact absurd (hFo _ (List.mem_map.2 ⟨q, hq, rfl⟩)) (hqe ▸ c2 _ hid)
    ·have hid := hur u hu
     have hin : (u.id, Cell.live u.ob) ∈ N := by rw [← r2]; exact List.mem_map.2 ⟨u, hu, rfl⟩
     refine putH_get (fun q hq hqe => ?_) ⟨(u.id, .live u.ob), by simp [hin], rfl⟩
     simp only [List.mem_append] at hq
     rcases hq with (hq | hq) | hq
     ·exact absurd (hOk q hq) (hqe ▸ hno _ hid)
     ·rw [keys_one (by rw [hNk]; exact hnd.2.1) hq hin hqe]
     ·exact absurd (List.mem_map.2 ⟨q, hq, rfl⟩) (hqe ▸ hnr _ hid)
   have hch : ∀ k ∈ owns ++ news ++ FZ.map (·.1), (∃ u ∈ ui ++ ur, u.id = k) ∨ (k ∈ owns ∧ putH H (O ++ N ++ FZ) k = .dead) ∨ (k ∈ rows ∧ k ∉ (ui ++ ur).map (·.id) ∧ Fz (H k) (putH H (O ++ N ++ FZ) k) ∧ lends = true ∧ rowish (H k) = true) := fun k hk => by
    simp only [List.mem_append] at hk
    rcases hk with (hk | hk) | hk
    ·rw [← o1] at hk
     obtain ⟨q, hq, rfl⟩ := List.mem_map.1 hk
     rcases o3 q hq with hd | ⟨u, u1, u2⟩
     ·refine .inr (.inl ⟨hOk q hq, putH_get (fun q' hq' hqe => ?_) ⟨q, by simp [hq], rfl⟩⟩)
      simp only [List.mem_append] at hq'
      rcases hq' with (hq' | hq') | hq'
      ·rw [keys_one (by rw [o1]; exact hnd.1) hq' hq hqe]; exact hd
      ·exact absurd (hOk q hq) (hqe ▸ hno _ (hNm q' hq'))
      ·exact absurd (hFo _ (List.mem_map.2 ⟨q', hq', rfl⟩)) (hqe ▸ c2 _ (hOk q hq))
     ·exact .inl ⟨u, by simp [u1], by rw [u2]⟩
    ·rw [← r1] at hk
     obtain ⟨u, hu, rfl⟩ := List.mem_map.1 hk
     exact .inl ⟨u, by simp [hu], rfl⟩
    ·obtain ⟨q, hq, rfl⟩ := List.mem_map.1 hk
     obtain ⟨h1, h2, h4, h5⟩ := hFm q hq
     have hput : putH H (O ++ N ++ FZ) q.1 = q.2 := by
      refine putH_get (fun q' hq' hqe => ?_) ⟨q, by simp [hq], rfl⟩
      simp only [List.mem_append] at hq'
      rcases hq' with (hq' | hq') | hq'
      ·exact absurd h1 (hqe ▸ c2 _ (hOk q' hq'))
      ·exact absurd hk (hqe ▸ hnr _ (hNm q' hq'))
      ·obtain ⟨_, h2', _⟩ := hFm q' hq'
       rw [hqe] at h2'
       exact h2'.one h2
     refine .inr (.inr ⟨h1, fun hm => ?_, by rw [hput]; exact h2, h4, h5⟩)
     obtain ⟨u, hu, he⟩ := List.mem_map.1 hm
     rcases List.mem_append.1 hu with hu | hu
     ·exact c2 _ (hui u hu) (by rw [he]; exact h1)
     ·exact hnr _ (hur u hu) (by rw [he]; exact hk)
   have hsub : ∀ u ∈ ui ++ ur, u.id ∈ owns ++ news ++ FZ.map (·.1) := fun u hu => by
    rcases List.mem_append.1 hu with hu | hu
    ·simp [hui u hu]
    ·simp [hur u hu]
   have hFsB : ∀ b ∈ owns.flatMap m.ft, Blk m H (owns ++ news ++ FZ.map (·.1)) b := fun b hb => by
    obtain ⟨i, i1, i2, i3⟩ := ft_blk hb g2
    exact ⟨i, by simp [i1], i2, i3⟩
   have hUF : (ui ++ ur).flatMap (·.F) = Fi ++ Fr := by rw [List.flatMap_append, o4, r3]
   have hUO : ∀ u ∈ ui ++ ur, ORep Zf w' u.ob u.hd u.F := fun u hu => by
    rcases List.mem_append.1 hu with hu | hu
    ·exact (o5 u hu).1
    ·exact r4 u hu
   have hUk : ∀ u ∈ ui ++ ur, ∀ b ∈ u.F, ¬ Zf b ∧ (Blk m H (owns ++ news ++ FZ.map (·.1)) b ∨ (w.heap.size ≤ b ∧ b < w'.heap.size)) := fun u hu b hb => by
    have hbF : b ∈ Fi ++ Fr := by rw [← hUF]; exact List.mem_flatMap.2 ⟨u, hu, hb⟩
    obtain ⟨n1, n2, n3⟩ := p.nz b hbF
    refine ⟨fun hz => n1 (hZZ b hz), ?_⟩
    by_cases hlt : b < w.heap.size
    ·exact .inl (hFsB b (n3 hlt))
    ·exact .inr ⟨by omega, n2⟩
   have hndF : ((ui ++ ur).flatMap (·.F)).Nodup := by rw [hUF]; exact p.nd
   have ch : Change B m H w (owns ++ news ++ FZ.map (·.1)) (m.sets Zf (ui ++ ur)) (putH H (O ++ N ++ FZ)) w' := by
    refine ⟨⟨hkp.os, hkp.tape, hkp.output, hkp.size, fun k hk => ?_, fun b hb hnB => hold b hb fun hF => hnB (hFsB b hF), hmZ, fun b hb => ?_, fun k hk => ?_, fun k hk hl b hb => ?_, fun k hk hl => ?_, fun i hi j hj hij hli hlj b hb hb' => ?_⟩, fun k hk hab => ?_⟩
    ·refine ⟨putH_notin fun hm => hk ?_, sets_out fun hm => hk ?_⟩
     ·rw [List.map_append, List.map_append, o1, hNk] at hm; exact hm
     ·obtain ⟨u, hu, rfl⟩ := List.mem_map.1 hm
      exact hsub u hu
    ·have hb : Zf b := hb
     cases hl : lends with
     | false => rw [hnz hl] at hb; exact .inl hb
     | true =>
      rw [hlz hl] at hb
      by_cases hlt : b < w.heap.size
      ·rcases p.zi b hb hlt with (hz | ⟨i, i1, i2, i3⟩) | hz
       ·exact .inl hz
       ·refine .inr (.inl ⟨⟨i, ?_, i2, i3⟩, hlt⟩)
        rw [hl] at c6
        simp only [Bool.not_true, Bool.false_or] at c6
        have hrw := List.all_eq_true.1 c6 i i1
        rw [only_eq (memN_iff.2 (hLr i i1))] at hrw
        obtain ⟨c', hc'⟩ := rowish_live hrw i2
        have := freeze_of (H := only H LL) i1 (by rw [only_eq (memN_iff.2 (hLr i i1))]; exact hc')
        have hin : (i, c') ∈ FZ := by rw [← hFZ, if_pos hl]; exact this
        simp only [List.mem_append]
        exact .inr (List.mem_map.2 ⟨_, hin, rfl⟩)
       ·exact .inr (.inl ⟨hFsB b hz, hlt⟩)
      ·exact .inr (.inr ⟨by omega, p.zl b hb⟩)
    ·rcases hch k hk with ⟨u, hu, rfl⟩ | ⟨_, hd⟩ | ⟨h1, h2, h3, h5, h6⟩
     ·rw [hU u hu]
      obtain ⟨e1, e2⟩ := sets_in (m := m) (Z1 := Zf) hids hu
      simp only [CRep]
      rw [e1, e2]
      exact hUO u hu
     ·rw [hd]; trivial
     ·have hL := h3.live
      have hfz : ∀ b ∈ m.ft k, b < w.heap.size ∧ b ∉ owns.flatMap m.ft := fun b hb => by
       refine ⟨(hh.nz k hL b hb).2.1, fun hF => (hFs b hF).1 (.inr ⟨k, h1, hL, hb⟩)⟩
      refine h3.rep hh h6 (fun b hb => hold b (hh.zl b hb) fun hF => (hFs b hF).1 (.inl hb)) hmZ (fun b hb => hold b (hfz b hb).1 (hfz b hb).2) (fun b hb => ?_) (sets_out (m := m) (Z1 := Zf) h2).1
      show Zf b
      rw [hlz h5]
      exact p.zs b (.inr ⟨k, h1, hL, hb⟩)
    ·rcases hch k hk with ⟨u, hu, rfl⟩ | ⟨_, hd⟩ | ⟨h1, h2, h3, h5, h6⟩
     ·rw [(sets_in (m := m) (Z1 := Zf) hids hu).2] at hb
      exact hUk u hu b hb
     ·rw [hd] at hl; exact hl.elim
     ·exact absurd hl h3.dead
    ·rcases hch k hk with ⟨u, hu, rfl⟩ | ⟨_, hd⟩ | ⟨h1, h2, h3, h5, h6⟩
     ·rw [(sets_in (m := m) (Z1 := Zf) hids hu).2]
      exact flatMap_nodup hndF hu
     ·rw [hd] at hl; exact hl.elim
     ·exact absurd hl h3.dead
    ·rcases hch i hi with ⟨u, hu, rfl⟩ | ⟨_, hd⟩ | ⟨h1, h2, h3, h5, h6⟩
     ·rcases hch j hj with ⟨u', hu', rfl⟩ | ⟨_, hd⟩ | ⟨h1, h2, h3, h5, h6⟩
      ·rw [(sets_in (m := m) (Z1 := Zf) hids hu).2] at hb
       rw [(sets_in (m := m) (Z1 := Zf) hids hu').2] at hb'
       exact flatMap_disj hndF hu hu' (fun e => hij (by rw [e])) hb hb'
      ·rw [hd] at hlj; exact hlj.elim
      ·exact absurd hlj h3.dead
     ·rw [hd] at hli; exact hli.elim
     ·exact absurd hli h3.dead
    ·rcases hch k hk with ⟨u, hu, rfl⟩ | ⟨_, hd⟩ | ⟨h1, h2, h3, h5, h6⟩
     ·have hu' := hu
      rcases List.mem_append.1 hu with hu | hu
      ·obtain ⟨q1, q2, g, ls, ls', q3, q4⟩ := o5 u hu
       have := hU u hu'
       rw [q4] at this
       exact EvoAt.cells_ q3 this (Nat.lt_succ_self _) (by rw [(sets_in (m := m) (Z1 := Zf) hids hu').1]; exact q2)
      ·exact absurd (c3 _ (hur u hu)) hab
     ·exact EvoAt.dead hd
     ·exact h3.evo rfl (sets_out (m := m) (Z1 := Zf) h2).1
   refine ⟨_, hh.change ch, hh.evo ch, ?_⟩
   rw [p.v]
   refine avOf_ok (r5 _ _ rfl fun u hu => ⟨(sets_in (m := m) (Z1 := Zf) hids (u := u) (by simp [hu])).1, hU u (by simp [hu])⟩)
  ·exact hQ.elim
 ·exact hQ.elim
end
end Go.Proofs.Ytadhpgecilhgnaa.A

-- YtadhpgecilhgnaaCm
set_option linter.unusedVariables false
set_option linter.unusedSimpArgs false
namespace Go.Proofs.Ytadhpgecilhgnaa.A
open Go
section
variable {P : Program} {B : Base} {m m' m0 m1 : Md} {H H' H1 : Hp} {w w' : World} {o : Oper} {a : Act} {E : Env} {tab : Nat → Option TI} {T : Nat → Option FunE} {L : List Nat} {Z1 Zf : Nat → Prop}

theorem wCallM_ok {F : FunE} {f : FuncId} (hF : FunOk P f F) (hh : HOk B m H w) {as_ : List AV} {vs : List Value} (hv : All2 (AVRep m w H) as_ vs) (ex : (execOp a.eval o).run P w = .ok (.enter f vs.toArray) w) : WayOk P B m H w o a (wCallM F o.dst as_) := by
 unfold wCallM
 split
 ·rename_i id g k key as'
  generalize hdd : 300000 + o.dst.getD 99999 = d
  match vs, hv with
  | c :: vs', hv =>
   intro Q hQ
   simp only at hQ
   generalize hcore : wCallF F o.dst (.val false [.ptr d 0] :: as') = core at hQ
   split at hQ
   ·rename_i g' k' e mm hx
    have hx := live_of_only hx
    split at hQ
    ·rename_i key' hg hk
     obtain rfl := Nat.eq_of_beq_eq_true hg
     obtain ⟨he, hk⟩ := castTo_eq hk
     subst he; subst hk
     split at hQ
     ·rename_i hc
      simp only [Bool.and_eq_true, Bool.not_eq_true'] at hc
      obtain ⟨c1, c2⟩ := hc
      have hda : H d = .absent := absent_of c1 (by simp)
      have hidn := memN_false.1 c2
      simp only [List.mem_cons, not_or] at hidn
      obtain ⟨hne, hidn⟩ := hidn
      have hQ := Tst.can_bind hQ
      have hL : (H id).Live := by rw [hx]; trivial
      obtain ⟨bm, ents, clock, bx, el, cc, Fb, y, m1', m2', e1, en, e2, F1, F2, p1, p2, p3, p4, p5, p6, p7, p8, p9, p10, p11, p12, p13, p14, p15, p16, p17⟩ := mel_ok hh hx hv.1.one
      have hnd := hh.nd id hL
      rw [p2] at hnd
      have hnd2 := List.nodup_cons.1 hnd
      have hperm : (F1 ++ ((bx :: Fb) ++ F2)).Perm ((F1 ++ F2) ++ (bx :: Fb)) := by
       rw [List.append_assoc]
       exact List.Perm.append_left _ List.perm_append_comm
      have hnd3 := hperm.nodup_iff.1 hnd2.2
      rw [List.nodup_append] at hnd3
      have mem1 : ∀ z, z ∈ bm :: (F1 ++ F2) ∨ z ∈ bx :: Fb → z ∈ m.ft id := fun z hz => by
       rw [p2]
       simp only [List.mem_cons, List.mem_append] at hz ⊢
       rcases hz with (h | h | h) | h | h <;> simp [h]
      -- the box is taken out
      have ch1 := Change.two (m := m) hh (id := id) (d := d) hne hL (ob := .mapb g k (.ptr e) mm (some (key, some (.pointer (some ⟨bx, 0, none⟩))))) (c := .live (.cells 0 (flat e y))) (G1 := bm :: (F1 ++ F2)) (G2 := bx :: Fb) (hdr := .pointer (some ⟨bx, 0, none⟩)) (fun z hz => .inl (mem1 z hz)) ?_ hnd3.2.1 (fun _ z hz hz2 => ?_)
       ⟨bm, ents, clock, F1 ++ F2, p1, rfl, p3, p4, ?_⟩ ?_ (EvoAt.mapbE hx (upd_same _ _ _) (upd_other _ _ hne) fun _ _ => rfl) (fun h => absurd hda h)
      rotate_left
      ·rw [List.nodup_cons]
       exact ⟨fun h => hnd2.1 (hperm.symm.subset (List.mem_append_left _ h)), hnd3.1⟩
      ·rcases List.mem_cons.1 hz with rfl | hz
       ·exact hnd2.1 (hperm.symm.subset (List.mem_append_right _ hz2))
       ·exact hnd3.2.2 z hz z hz2 rfl
      ·rw [p9, p10]
       exact RepMH.of (q := fun x => eqV k x key) (ov := some (.pointer (some ⟨bx, 0, none⟩))) (p := (key, some y)) p14 p12 (fun u hu => by cases hu; exact p11) p16 p13 p15
      ·simp only [CRep]
       rw [upd_same, upd_same]
       exact ⟨bx, el, cc, Fb, rfl, rfl, p6, flat_ok p7⟩
      have hh1 := hh.change ch1
      have ev1 := hh.evo ch1
      generalize hm1 : ({ Z := m.Z, hd := upd m.hd d (.pointer (some ⟨bx, 0, none⟩)), ft := upd (upd m.ft id (bm :: (F1 ++ F2))) d (bx :: Fb) } : Md) = M1 at hh1 ev1
      generalize hH1 : upd (upd H d (.live (.cells 0 (flat e y)))) id (.live (.mapb g k (.ptr e) mm (some (key, some (.pointer (some ⟨bx, 0, none⟩)))))) = H1 at hh1 ev1
      have H1d : H1 d = .live (.cells 0 (flat e y)) := by rw [← hH1, upd_other _ _ (Ne.symm hne), upd_same]
      have H1id : H1 id = .live (.mapb g k (.ptr e) mm (some (key, some (.pointer (some ⟨bx, 0, none⟩))))) := by rw [← hH1, upd_same]
      have M1d : M1.hd d = .pointer (some ⟨bx, 0, none⟩) := by rw [← hm1]; exact upd_same _ _ _
      have M1id : M1.hd id = m.hd id := by rw [← hm1]; exact upd_other _ _ hne
      have call := wCallF_ok (a := a) (o := o) hF hh1 (as_ := .val false [.ptr d 0] :: as') (vs := c :: vs') ⟨AVRep.mk1 ⟨by rw [H1d]; simp, fun _ _ _ => ⟨bx, M1d, p5⟩⟩, hv.2.mono fun _ _ h => h.evo ev1⟩ ex
      rw [hcore] at call
      have heq : only (upd (only H ([] ++ id :: d :: (core.rd ++ core.wr))) d (.live (.cells 0 (flat e (boxOf k e key mm))))) (core.rd ++ core.wr) = only H1 (core.rd ++ core.wr) := by
       funext n
       unfold only
       cases hn : memN n (core.rd ++ core.wr) with
       | false => rfl
       | true =>
        simp only
        have hnm := memN_iff.1 hn
        have hni : n ≠ id := fun e => hidn (e ▸ hnm)
        by_cases hnd' : n = d
        ·subst hnd'
         rw [upd_same, H1d, p8]
        ·rw [upd_other _ _ hnd', ← hH1, upd_other _ _ hni, upd_other _ _ hnd']
         have : memN n ([] ++ id :: d :: (core.rd ++ core.wr)) = true := memN_iff.2 (by
          rw [List.nil_append]
          exact List.mem_cons_of_mem _ (List.mem_cons_of_mem _ hnm))
         rw [this]
      rw [heq] at hQ
      obtain ⟨v, ups, hQ2, hop⟩ := call _ hQ
      simp only at hQ2
      split at hQ2
      ·rename_i gg ls hls hall
       split at hQ2
       ·rename_i y' hy'
        refine ⟨_, _, hQ2, ?_⟩
        unfold OpOk at hop ⊢
        rw [ex] at hop ⊢
        refine hop.mono fun e' w' ⟨v', he', hA⟩ => ⟨v', he', ?_⟩
        obtain ⟨m2, hh2, ev2, hv2⟩ := hA
        have hkeys := memN_all hall
        have hidk : id ∉ ups.map (·.1) := fun h => hidn (List.mem_append_right _ (hkeys id h))
        have hdk : d ∈ ups.map (·.1) := by
         apply Classical.byContradiction
         intro hn
         rw [putH_notin hn] at hls
         cases hls
        generalize hH2 : putH H1 ups = H2 at hh2 ev2 hv2
        have H2id : H2 id = .live (.mapb g k (.ptr e) mm (some (key, some (.pointer (some ⟨bx, 0, none⟩))))) := by rw [← hH2, putH_notin hidk, H1id]
        have H2d : H2 d = .live (.cells gg ls) := by rw [← hH2, putH_indep (H' := fun _ => .absent) hdk, hls]
        have L2 : (H2 id).Live := by rw [H2id]; trivial
        have Ld : (H2 d).Live := by rw [H2d]; trivial
        obtain ⟨q1, _⟩ := ev2.mapb id (by rw [H1id]; simp) _ _ _ _ _ H2id
        obtain ⟨q2, _⟩ := ev2.cells d (by rw [H1d]; simp) _ _ H2d
        have cr := hh2.cr id
        rw [H2id] at cr
        obtain ⟨b, ents2, clock2, F', r1, r2, r3, r4, r5⟩ := cr
        have crd := hh2.cr d
        rw [H2d] at crd
        obtain ⟨bx2, el2, cc2, Fb2, s1, s2, s3, s4⟩ := crd
        rw [q2, M1d] at s1; cases s1
        have hyr := asmAllO hy' s4
        rw [p9] at r5
        obtain ⟨f1, en', f2, G1, G2, t1, t2, t3, t4, t5, t6⟩ := RepMH.to (q := fun x => eqV k x key) (p := (key, some y)) (m := m1') p14 p13 r5
        have hbb : b = bm := by rw [q1, M1id, p1] at r1; cases r1; rfl
        subst hbb
        have nid := hh2.nd id L2
        rw [r2, t2, List.nodup_cons] at nid
        have ndd := hh2.nd d Ld
        have dis : ∀ z ∈ m2.ft id, z ∉ m2.ft d := fun z hz => hh2.sp id d hne L2 Ld z hz
        rw [r2, t2, s2] at dis
        have ch3 := Change.two (m := m2) hh2 (id := id) (d := d) hne L2 (ob := .mapb g k (.ptr e) (mapPut k (.ptr e) key (some y') mm) none) (c := .dead) (G1 := b :: (G1 ++ ((bx :: Fb2) ++ G2))) (G2 := []) (hdr := m2.hd d) (fun z hz => ?_) ?_ (by simp) (fun h => h.elim)
         ⟨b, ents2, clock2, G1 ++ ((bx :: Fb2) ++ G2), r1, rfl, r3, r4, ?_⟩ trivial (EvoAt.mapbE H2id (upd_same _ _ _) (upd_other _ _ hne) fun _ _ => rfl) (fun _ => EvoAt.dead (by rw [upd_other _ _ (Ne.symm hne), upd_same]))
        rotate_left
        ·rcases hz with hz | hz
         ·rw [r2, t2, s2]
          simp only [List.mem_cons, List.mem_append] at hz ⊢
          rcases hz with h | h | (h | h) | h
          ·exact .inl (.inl h)
          ·exact .inl (.inr (.inl h))
          ·exact .inr ⟨Ld, .inl h⟩
          ·exact .inr ⟨Ld, .inr h⟩
          ·exact .inl (.inr (.inr h))
         ·cases hz
        ·have hp : (G1 ++ ((bx :: Fb2) ++ G2)).Perm ((G1 ++ G2) ++ (bx :: Fb2)) := by
          rw [List.append_assoc]
          exact List.Perm.append_left _ List.perm_append_comm
         rw [List.nodup_cons]
         refine ⟨fun h => ?_, hp.nodup_iff.2 ?_⟩
         ·rcases List.mem_append.1 (hp.subset h) with h | h
          ·exact nid.1 h
          ·exact dis b (by simp) h
         ·rw [List.nodup_append]
          rw [s2] at ndd
          exact ⟨nid.2, ndd, fun z hz z2 hz2 e => dis z (List.mem_cons_of_mem _ hz) (e ▸ hz2)⟩
        ·show RepMF _ _ _ _ _
         rw [p17, t1]
         exact RepMF.append t3 ⟨en', f2, bx :: Fb2, G2, rfl, rfl, t4, ⟨[en'.val], rfl, by
          rw [t5 _ rfl]
          exact ⟨bx, el2, cc2, Fb2, rfl, rfl, s3, hyr⟩⟩, t6⟩
        have hfin : putH H (ups ++ [(d, .dead), (id, .live (.mapb g k (.ptr e) (mapPut k (.ptr e) key (some y') mm) none))]) = upd (upd H2 d .dead) id (.live (.mapb g k (.ptr e) (mapPut k (.ptr e) key (some y') mm) none)) := by
         rw [putH_append]
         simp only [putH]
         funext n
         by_cases h1 : n = id
         ·subst h1; rw [upd_same, upd_same]
         ·rw [upd_other _ _ h1, upd_other _ _ h1]
          by_cases h2 : n = d
          ·subst h2; rw [upd_same, upd_same]
          ·rw [upd_other _ _ h2, upd_other _ _ h2, ← hH2]
           exact putH_agree (by rw [← hH1, upd_other _ _ h1, upd_other _ _ h2])
        unfold After
        rw [hfin]
        exact ⟨_, hh2.change ch3, (ev1.trans ev2).trans (hh2.evo ch3), hv2.evo (hh2.evo ch3)⟩
       ·exact hQ2.elim
      ·exact hQ2.elim
     ·exact hQ.elim
    ·exact hQ.elim
   ·exact hQ.elim
 ·exact wCallF_ok hF hh hv ex
end
end Go.Proofs.Ytadhpgecilhgnaa.A

-- YtadhpgecilhgnaaFn4
set_option linter.unusedVariables false
set_option linter.unusedSimpArgs false
namespace Go.Proofs.Ytadhpgecilhgnaa.A
open Go
section
variable {P : Program} {B : Base} {m m' m0 : Md} {H H' : Hp} {w w' : World} {o : Oper} {a : Act} {E : Env} {tab : Nat → Option TI} {N : Nat}

structure PInv (B : Base) (Z : Nat → Prop) (w : World) (vals : Nat → Value) (t0 : Nat) (m : Md) (es : List (Nat × AV)) (hs : List (Nat × Cell)) (F : List Nat) : Prop where
 h : HOk B m (ofL .absent hs) w
 z : m.Z = Z
 t : ∀ k, AVRep m w (ofL .absent hs) (ofL .junk es k) (vals k)
 own : ∀ k, (ofL .absent hs k).Live → ∀ b ∈ m.ft k, b ∈ F
 ks : ∀ k ∈ hs.map (·.1), ∃ t, t0 ≤ t ∧ k = headId t
theorem pinv_put {m : Md} {H : Hp} {es : List (Nat × AV)} {vals : Nat → Value} (h : ∀ t, AVRep m w H (ofL .junk es t) (vals t)) {t0 : Nat} {v : AV} (hv : AVRep m w H v (vals t0)) (t : Nat) : AVRep m w H (ofL .junk ((t0, v) :: es) t) (vals t) := by
 rw [ofL_cons]
 by_cases ht : t = t0
 ·subst ht; rw [upd_same]; exact hv
 ·rw [upd_other _ _ ht]; exact h t
theorem par_plain {t : Nat} {τ : Ty} {x : τ.den} (h : τ.vecP = false) (hp : τ.pure = true) : parAV t false τ x = (.val (!τ.one) (flat τ x), []) := by
 cases τ <;> first | rfl | cases hp
theorem pars_ok {Z : Nat → Prop} (h0 : ∀ m : Md, m.Z = Z → HOk B m (fun _ => .absent) w) {vals : Nat → Value} : ∀ {ps : List (Bool × Ty)} {t : Nat} {x : (ps.foldr (fun p t => Ty.pair p.2 t) .unit).den} {vs : List Value} {F : List Nat},
 ArgsRep Z w ps x vs F → F.Nodup → (∀ b ∈ F, ¬ Z b ∧ b < w.heap.size ∧ (b < B.w.heap.size → b ∈ B.F)) → (ps.all fun p => p.1 || p.2.pure || p.2.vecP) = true → (∀ (i : Nat) (v : Value), vs[i]? = some v → vals (t + i) = v) →
 ∃ m, PInv B Z w vals t m (pars t ps x).1 (pars t ps x).2 F
 | [], t, x, vs, F, _, _, _, _, _ => ⟨{ Z := Z, hd := fun _ => undef, ft := fun _ => [] }, h0 _ rfl, rfl, fun _ => trivial, fun _ h => h.elim, by simp [pars]⟩
 | (io, τ) :: ps, t, x, vs, F, ⟨v, vs', F1, F2, h1, h2, h3, h4⟩, hn, hF, hk, hv => by
  subst h1; subst h2
  rw [List.all_cons, Bool.and_eq_true] at hk
  rw [List.nodup_append] at hn
  obtain ⟨m, K⟩ := pars_ok h0 (t := t + 1) h4 hn.2.1 (fun b hb => hF b (by simp [hb])) hk.2 (fun i v hi => by have := hv (i + 1) v (by simpa using hi); rwa [show t + (i + 1) = t + 1 + i by omega] at this)
  have hval : vals t = v := hv 0 v (by simp)
  have hfresh : ofL .absent (pars (t + 1) ps x.2).2 (headId t) = .absent := ofL_absent _ fun hm => by
   obtain ⟨t', h1, h2⟩ := K.ks _ hm
   have := headId_inj h2
   omega
  -- an object under this place's name
  have obj : ∀ {ob : Obj} {hdr : Value} {av : AV}, ORep Z w ob hdr F1 → parAV t io τ x.1 = (av, [(headId t, .live ob)]) → (∀ (m1 : Md) (H1 : Hp), m1.hd (headId t) = hdr → H1 (headId t) = .live ob → AVRep m1 w H1 av (vals t)) → ∃ m, PInv B Z w vals t m (pars t ((io, τ) :: ps) x).1 (pars t ((io, τ) :: ps) x).2 (F1 ++ F2) := by
   intro ob hdr av hr hp hav
   obtain ⟨q1, q2⟩ := K.h.add hfresh (by rw [K.z]; exact hr) hn.1 (fun b hb => by rw [K.z]; exact hF b (by simp [hb])) (fun j hj b hb hb' => hn.2.2 b hb' b (K.own j hj b hb) rfl)
   refine ⟨m.set (headId t) hdr F1, ?_⟩
   simp only [pars, hp, List.singleton_append]
   refine ⟨q1, K.z, pinv_put (fun k => (K.t k).evo q2) (hav _ _ (by simp only [Md.set]; rw [upd_same]) (upd_same _ _ _)), fun k hk b hb => ?_, fun k hk => ?_⟩
   ·by_cases hk0 : k = headId t
    ·subst hk0
     simp only [Md.set] at hb
     rw [upd_same] at hb
     simp [hb]
    ·rw [ofL_cons, upd_other _ _ hk0] at hk
     simp only [Md.set] at hb
     rw [upd_other _ _ hk0] at hb
     simp [K.own k hk b hb]
   ·simp only [List.map_cons, List.mem_cons] at hk
    rcases hk with rfl | hk
    ·exact ⟨t, Nat.le_refl _, rfl⟩
    ·obtain ⟨t', h1, h2⟩ := K.ks k hk
     exact ⟨t', by omega, h2⟩
  cases io with
  | true =>
   obtain ⟨b, el, cs, F', e1, e2, e3, e4⟩ := h3
   refine obj (ob := .cells 0 (flat τ x.1)) (hdr := .pointer (some ⟨b, 0, none⟩)) ⟨b, el, cs, F', rfl, e2, e3, flat_ok e4⟩ rfl fun m1 H1 h1 h2 => one_val ⟨by rw [h2]; simp, fun _ _ _ => ⟨b, h1, by rw [hval, e1]⟩⟩
  | false =>
   obtain ⟨cs, e1, e2⟩ := h3
   have hk1 : (τ.pure || τ.vecP) = true := by simpa using hk.1
   by_cases hve : τ.vecP = true
   ·cases τ with
    | vec e =>
     have e1 : cs = [v] := e1
     subst e1
     exact obj (ob := .row e x.1) (hdr := v) e2 rfl fun m1 H1 h1 h2 => one_val ⟨by rw [h2]; simp, fun _ _ _ => by rw [hval, h1], fun _ _ _ => by rw [hval, h1]⟩
    | _ => cases hve
   ·have hve : τ.vecP = false := by simpa using hve
    rw [hve, Bool.or_false] at hk1
    have hF1 := e2.pure hk1
    subst hF1
    refine ⟨m, ?_⟩
    simp only [pars, par_plain hve hk1, List.nil_append]
    refine ⟨K.h, K.z, pinv_put K.t ⟨cs, by rw [hval]; exact e1, flat_all2 (by rw [K.z]; exact e2)⟩, K.own, fun k hk => ?_⟩
    obtain ⟨t', h1, h2⟩ := K.ks k hk
    exact ⟨t', by omega, h2⟩

def resRun (tmps : Array Value) : ResultVar → Sem Value
 | .tmp t => pure (tmps.getD t undef)
 | .cell a t => do loadVar t (← asAddr (tmps.getD a undef))
theorem resVal_ok (hT : TabOk P tab) (s : St B m E H a w) {rv : ResultVar} {p : Bool × List LV} (h : resVal tab H E rv = some p) : ∃ u, (resRun a.tmps rv).run P w = .ok u w ∧ PRep m w H p u := by
 cases rv with
 | tmp t =>
  simp only [resVal] at h
  split at h
  ·rename_i g ls he
   cases h
   have := s.t t
   rw [he] at this
   exact ⟨_, by simp [resRun], this⟩
  ·cases h
 | cell ad t =>
  simp only [resVal] at h
  split at h
  ·rename_i i id hi he
   split at h
   ·rename_i g ls hx
    split at h
    ·rename_i hl
     cases h
     have hl := Nat.eq_of_beq_eq_true hl
     have ht := s.t ad
     rw [he] at ht
     obtain ⟨b, q1, q2⟩ := ht.one.2 _ _ hx
     have hc := s.h.cr id
     rw [hx] at hc
     obtain ⟨b', el, cs, F', k1, k2, k3, k4⟩ := hc
     rw [k1] at q1; cases q1
     have hcell : ∀ (j : Nat) (u : Value), cs[j]? = some u → w.cell? ⟨b, 0 + j, none⟩ = some u := fun j u hu => by
      simp only [World.cell?, k3]
      simpa using hu
     have hls := outLeaves_ok (m := m) (w := w) hx k1 0 k4 (fun j l hj => by simpa using hj) hcell
     have hlen : cs.length = i.ty.cells := by rw [k4.len (sz := 1) ol1_len, Nat.mul_one, hl]
     obtain ⟨v, r1, r2⟩ := load_ok (P := P) (w := w) hT hi (b := b) (p := 0) hlen hcell
     refine ⟨v, ?_, cs, r2, hls⟩
     simp only [resRun, q2, asAddr, Sem.run_bind, Sem.run_pure, Result.andThen_ok]
     simpa [Instr.loadAt, Instr.sureAddr] using r1
    ·cases h
   ·cases h
  ·cases h
theorem resVals_ok (hT : TabOk P tab) (s : St B m E H a w) : ∀ {rvs : List ResultVar} {rs : List (Bool × List LV)}, resVals tab H E rvs = some rs → ∃ us, (rvs.mapM (resRun a.tmps)).run P w = .ok us w ∧ All2 (PRep m w H) rs us
 | [], _, h => by cases h; exact ⟨[], by simp, trivial⟩
 | rv :: rvs, rs, h => by
  simp only [resVals] at h
  split at h
  ·rename_i p ps h1 h2
   cases h
   obtain ⟨u, u1, u2⟩ := resVal_ok hT s h1
   obtain ⟨us, v1, v2⟩ := resVals_ok hT s h2
   refine ⟨u :: us, ?_, u2, v2⟩
   simp [List.mapM_cons, u1, v1]
  ·cases h
theorem results_run {fn : Func} {us : List Value} (h : (fn.results.toList.mapM (resRun a.tmps)).run P w = .ok us w) : (results fn a.tmps).run P w = .ok (tupOf us) w := by
 have e : results fn a.tmps = (do let vs ← fn.results.mapM (resRun a.tmps); pure (if h : vs.size = 1 then vs[0] else .tuple vs)) := by
  unfold results
  congr 1
 rw [e, Array.mapM_eq_mapM_toList]
 simp only [Sem.run_bind, map_eq_pure_bind, h, Result.andThen_ok, Sem.run_pure]
 congr 1
 match us with
 | [] => rfl
 | [u] => rfl
 | u :: v :: us => simp [tupOf]
theorem resOne_ok {Zf : Nat → Prop} (hh : HOk B m H w) (hz : ∀ b, m.Z b → Zf b) {τ : Ty} {g : Bool} {ls : List LV} {x : τ.den} {v : Value} (h : resOne H τ g ls = some x) (hn : nnB H [τ] [(g, ls)] = true) (hv : PRep m w H (g, ls) v) (hr : ∀ id ∈ argRd false τ (.val g ls), (H id).Live → ∀ b ∈ m.ft id, Zf b) :
 (∃ cs, IsV (!τ.one) cs v ∧ Rep Zf w τ x cs ((ownArg false τ (.val g ls)).flatMap m.ft)) ∧ ∀ id ∈ ownArg false τ (.val g ls), (H id).Live := by
 unfold resOne at h
 split at h
 ·rename_i e id
  split at h
  ·rename_i e' xs hx
   unfold slAs at h
   split at h
   ·rename_i hp
    obtain ⟨he, hxs⟩ := castTo_eq h
    cases he
    have hxs : xs = x := hxs
    subst hxs
    have hne : xs ≠ [] := by
     intro e
     subst e
     simp [nnB, nnCell, hx] at hn
    have hL : (H id).Live := by rw [hx]; trivial
    have hv1 := AVRep.one (v := v) (m := m) (w := w) (H := H) (l := .row id) hv
    have hcr := hh.cr id
    rw [hx] at hcr
    refine ⟨⟨[v], rfl, ?_⟩, fun i hi => by simp [ownArg] at hi⟩
    have e1 := hv1.2.1 _ _ hx
    have r := Rep.vec_sl (Z' := Zf) hp hcr hz fun b hb => hr id (by simp [argRd, ownArg, slRds, slRd]) hL b hb
    rw [← e1] at r
    exact ⟨fun h => absurd h hne, r⟩
   ·cases h
  ·cases h
 ·exact ownIn_ok (Sub.refl H) hh hz h hv hr
theorem nnB_head {τ : Ty} {outs : List Ty} {p : Bool × List LV} {rs : List (Bool × List LV)} (h : nnB H (τ :: outs) (p :: rs) = true) : nnB H [τ] [p] = true ∧ nnB H outs rs = true := by
 unfold nnB at h
 split at h
 ·rename_i h1 h2
  cases h1; cases h2
  rw [Bool.and_eq_true] at h
  exact ⟨by simp [nnB, h.2], h.1⟩
 ·rename_i hne h1 h2
  cases h1; cases h2
  refine ⟨?_, h⟩
  unfold nnB
  split
  ·rename_i h3 h4
   cases h3; cases h4
   exact (hne _ _ _ rfl rfl).elim
  ·rename_i h3 h4
   cases h3; cases h4
   rfl
  ·rfl
 ·rename_i k1 k2
  first | exact (k1 _ _ _ _ rfl rfl).elim | exact (k2 _ _ _ _ rfl rfl).elim | exact (k1 _ _ _ _ rfl).elim | exact (k2 _ _ _ _ rfl).elim
theorem resIn_ok {Zf : Nat → Prop} (hh : HOk B m H w) (hz : ∀ b, m.Z b → Zf b) : ∀ {outs : List Ty} {rs : List (Bool × List LV)} {us : List Value} {x : (outs.foldr Ty.pair .unit).den}, resIn H outs rs = some x → nnB H outs rs = true → All2 (PRep m w H) rs us →
 (∀ id ∈ resRds outs rs, (H id).Live → ∀ b ∈ m.ft id, Zf b) → ResL Zf w outs x us ((resOwns outs rs).flatMap m.ft) ∧ ∀ id ∈ resOwns outs rs, (H id).Live
 | [], [], us, x, _, _, hv, _ => by
  have : us = [] := by cases us with | nil => rfl | cons _ _ => exact hv.elim
  subst this
  exact ⟨⟨rfl, rfl⟩, by simp [resOwns]⟩
 | [], _ :: _, _, _, h, _, _, _ => by cases h
 | _ :: _, [], _, _, h, _, _, _ => by cases h
 | τ :: outs, p :: rs, [], _, _, _, hv, _ => hv.elim
 | τ :: outs, p :: rs, u :: us, x, h, hn, hv, hr => by
  obtain ⟨n1, n2⟩ := nnB_head hn
  simp only [resIn] at h
  split at h
  ·rename_i y ys hy hys
   cases h
   obtain ⟨g1, g2⟩ := resIn_ok hh hz hys n2 hv.2 fun id hid => hr id (by simp [resRds, hid])
   obtain ⟨k1, k2⟩ := resOne_ok hh hz hy n1 hv.1 fun id hid => hr id (by simp [resRds, hid])
   refine ⟨⟨u, us, _, _, rfl, ?_, k1, g1⟩, fun id hid => ?_⟩
   ·simp [resOwns, List.flatMap_append]
   ·simp only [resOwns, List.mem_append] at hid
    exact hid.elim (k2 id) (g2 id)
  ·cases h
theorem splitRes_join : ∀ {outs more : List Ty} {x : (outs.foldr Ty.pair .unit).den} {y : (more.foldr Ty.pair .unit).den}, splitRes outs more (joinRes outs more x y) = (x, y)
 | [], _, _, _ => rfl
 | τ :: outs, more, x, y => by
  simp only [joinRes, splitRes, splitRes_join]
  rfl

theorem io_end {Zf : Nat → Prop} (s : St B m E H a w) (hz : ∀ b, m.Z b → Zf b) {fv : Nat → Value} : ∀ {ps : List (Bool × Ty)} {t : Nat} {ids : List Nat} {x : (((ps.filter (·.1)).map (·.2)).foldr Ty.pair .unit).den} {vs : List Value},
 ioIdsOf E (iosOf t ps) = some ids → ioOut H ((ps.filter (·.1)).map (·.2)) ids = some x → (∀ i ∈ iosOf t ps, a.tmps.getD i undef = fv i) → (∀ i, i < ps.length → vs[i]? = some (fv (t + i))) →
 IoRep Zf w ps x vs (ids.flatMap m.ft) ∧ ∀ id ∈ ids, (H id).Live
 | [], t, ids, x, vs, h1, h2, _, _ => by
  cases h1
  exact ⟨rfl, by simp⟩
 | (false, τ) :: ps, t, ids, x, vs, h1, h2, h3, h4 => by
  refine io_end (ps := ps) (t := t + 1) s hz h1 h2 h3 fun i hi => ?_
  have := h4 (i + 1) (by simp; omega)
  rw [List.getElem?_tail, this]
  congr 2; omega
 | (true, τ) :: ps, t, ids, x, vs, h1, h2, h3, h4 => by
  simp only [iosOf, ioIdsOf] at h1
  split at h1
  ·rename_i id ids' he hi
   cases h1
   have h2 : ioOut H (τ :: ((ps.filter (·.1)).map (·.2))) (id :: ids') = some x := h2
   simp only [ioOut] at h2
   split at h2
   ·rename_i g ls y hx hy
    split at h2
    ·rename_i z hz'
     cases h2
     obtain ⟨g1, g2⟩ := io_end (ps := ps) (t := t + 1) (vs := vs.tail) s hz hi hy (fun i hi => h3 i (by simp [iosOf, hi])) (fun i hi => by
      have := h4 (i + 1) (by simp; omega)
      rw [List.getElem?_tail, this]
      congr 2; omega)
     have ht := s.t t
     rw [he, h3 t (by simp [iosOf])] at ht
     obtain ⟨b, e1, e2⟩ := ht.one.2 _ _ hx
     have hL : (H id).Live := by rw [hx]; trivial
     have hc := s.h.cr id
     rw [hx] at hc
     obtain ⟨b', el, cs, F', k1, k2, k3, k4⟩ := hc
     rw [k1] at e1; cases e1
     have hv0 := h4 0 (by simp)
     refine ⟨⟨b, el, cs, F', _, ?_, ?_, k3, Rep.frame (fun _ _ => rfl) hz (fun _ _ => rfl) (asmAllO hz' k4), g1⟩, fun i hi => ?_⟩
     ·rw [List.head?_eq_getElem?, hv0, Nat.add_zero, e2]
     ·rw [List.flatMap_cons, k2]
     ·rcases List.mem_cons.1 hi with rfl | hi
      ·exact hL
      ·exact g2 i hi
    ·cases h2
   ·cases h2
  ·cases h1

theorem fin_ok (hT : TabOk P tab) {fn : Func} {F : FunE} {Z : Nat → Prop} {w0 : World} {Fs : List Nat} {vs : List Value} (hB : B = { w := w0, F := Fs, Z := Z, fx := iosOf 0 F.ins, fv := fun i => vs.getD i undef }) (hlen : vs.length = F.ins.length) {r : ((F.outs ++ (F.ins.filter (·.1)).map (·.2)).foldr Ty.pair .unit).den} :
 KonOk P B N r (bodyPost P fn fun e w' => ∃ v Z' us Fr Fi, e = .returned v ∧ Post Z w0 Fs F vs r v w' Z' us Fr Fi) (finOf tab F.outs ((F.ins.filter (·.1)).map (·.2)) fn.results.toList (iosOf 0 F.ins)) := by
 subst hB
 intro x E H a w ⟨m, s, hN, hf⟩ h
 have key : finOf tab F.outs ((F.ins.filter (·.1)).map (·.2)) fn.results.toList (iosOf 0 F.ins) .normal E H = some r → a.defers = [] ∧ ∃ v, (results fn a.tmps).run P w = .ok v w ∧ ∃ v' Z' us Fr Fi, Ending.returned v = .returned v' ∧ Post Z w0 Fs F vs r v' w Z' us Fr Fi := by
  intro h
  refine ⟨s.d, ?_⟩
  simp only [finOf] at h
  split at h
  ·rename_i rs ios hrs hios
   split at h
   ·rename_i xa xb hxa hxb
    split at h
    ·rename_i hck
     split at h
     rotate_left
     ·cases h
     rename_i hnn
     cases h
     simp only [Bool.and_eq_true] at hck
     obtain ⟨c1, c2⟩ := hck
     have c1 := nodupN_iff.1 c1
     have c2 : ∀ i ∈ resRds F.outs rs, i ∉ resOwns F.outs rs ++ ios := fun i hi => by
      have := List.all_eq_true.1 c2 i hi
      exact memN_false.1 (by simpa using this)
     obtain ⟨us, u1, u2⟩ := resVals_ok hT s hrs
     let Zf : Nat → Prop := fun b => m.Z b ∨ ∃ id ∈ resRds F.outs rs, (H id).Live ∧ b ∈ m.ft id
     obtain ⟨r1, r2⟩ := resIn_ok (Zf := Zf) s.h (fun b hb => .inl hb) hxa hnn u2 (fun id hid hl b hb => .inr ⟨id, hid, hl, hb⟩)
     obtain ⟨i1, i2⟩ := io_end (Zf := Zf) (fv := fun i => vs.getD i undef) (ps := F.ins) (t := 0) (vs := vs) s (fun b hb => .inl hb) hios hxb (fun i hi => hf i hi) (fun i hi => by
      rw [Nat.zero_add, List.getD_eq_getElem?_getD, List.getElem?_eq_getElem (by omega)]; rfl)
     have hlive : ∀ id ∈ ios ++ resOwns F.outs rs, (H id).Live := fun id hid => (List.mem_append.1 hid).elim (i2 id) (r2 id)
     have hnd : (ios ++ resOwns F.outs rs).Nodup := by
      rw [List.nodup_append] at c1 ⊢
      exact ⟨c1.2.1, c1.1, fun x hx y hy e => c1.2.2 y hy x hx e.symm⟩
     refine ⟨_, results_run u1, _, Zf, us, (resOwns F.outs rs).flatMap m.ft, ios.flatMap m.ft, rfl, s.h.kp, fun b hb => .inl (s.h.zs b hb), fun b hb => ?_, fun b hb hlt => ?_, ?_, rfl, ?_, ?_, fun b hb => ?_⟩
     ·exact hb.elim (s.h.zl b) fun ⟨i, _, h2, h3⟩ => (s.h.nz i h2 b h3).2.1
     ·exact hb.elim (fun hb => s.h.zi b hb hlt) fun ⟨i, _, h2, h3⟩ => .inr ((s.h.nz i h2 b h3).2.2 hlt)
     ·rw [splitRes_join]; exact r1
     ·rw [splitRes_join]; exact i1
     ·rw [← List.flatMap_append]; exact ft_nodup s.h hnd hlive
     ·rw [← List.flatMap_append] at hb
      obtain ⟨i, h1, h2, h3⟩ := ft_blk hb hlive
      obtain ⟨n1, n2, n3⟩ := s.h.nz i h2 b h3
      refine ⟨fun hz => hz.elim n1 fun ⟨j, j1, j2, j3⟩ => ?_, n2, n3⟩
      have hij : i ≠ j := fun e => c2 j j1 (by rw [← e]; rw [List.mem_append] at h1 ⊢; exact h1.symm)
      exact s.h.sp i j hij h2 j2 b h3 j3
    ·cases h
   ·cases h
  ·cases h
 cases x with
 | normal => exact key h
 | ret => exact key h
 | _ => cases h

theorem ArgsRep.len {Z : Nat → Prop} {w : World} : ∀ {ps : List (Bool × Ty)} {x : (ps.foldr (fun p t => Ty.pair p.2 t) .unit).den} {vs : List Value} {F : List Nat}, ArgsRep Z w ps x vs F → vs.length = ps.length
 | [], _, _, _, h => by rw [h.1]; rfl
 | _ :: _, _, _, _, ⟨v, vs', F1, F2, h1, h2, h3, h4⟩ => by rw [h1, List.length_cons, h4.len]; rfl

def fnOkB (fn : Func) (ins : List (Bool × Ty)) : Bool :=
 codeOkB fn.ntmps (iosOf 0 ins) (bodyOf fn) && fn.body.isSome && Nat.ble ins.length fn.ntmps && ins.all fun p => p.1 || p.2.pure || p.2.vecP
theorem fnE_ok (hm : P.follows .mixedOrders = true) (hT : TabOk P tab) {f : FuncId} {fn : Func} (hf : P.funcs[f]? = some fn) {T : Nat → Nat → Option FunE} {ann : Nat → Option (List Keep)} {ins : List (Bool × Ty)} {outs : List Ty} {n : Nat} (hW : ∀ k, k ≤ n → WaysOk P tab (T k)) (hk : fnOkB fn ins = true) : FunOk P f (fnE tab T ann fn ins outs n) := by
 intro Z w xs vs Fs r hZ hA hn hFs hr
 simp only [fnOkB, Bool.and_eq_true] at hk
 obtain ⟨⟨⟨k1, k2⟩, k3⟩, k4⟩ := hk
 have k3 := Nat.le_of_ble_eq_true k3
 obtain ⟨c, hc⟩ := Option.isSome_iff_exists.1 k2
 have hbody : bodyOf fn = c := by unfold bodyOf; rw [hc]; rfl
 have hlen : vs.length = ins.length := hA.len
 let B : Base := { w := w, F := Fs, Z := Z, fx := iosOf 0 ins, fv := fun i => vs.getD i undef }
 have h0 : ∀ m : Md, m.Z = Z → HOk B m (fun _ => .absent) w := fun m hmz => ⟨fun b hb => hZ b (by rw [← hmz]; exact hb), fun b hb => (by rw [hmz]; exact hb), fun b hb _ => .inl (by rw [hmz] at hb; exact hb), fun _ => trivial, fun _ h => h.elim, fun _ _ _ h => h.elim, fun _ h => h.elim, Kept.refl _ _⟩
 have htm : ∀ k, ((vs.toArray ++ Array.replicate (fn.ntmps - vs.toArray.size) undef).getD k undef) = vs.getD k undef := fun k => by
  rw [Array.getD_eq_getD_getElem?, List.getD_eq_getElem?_getD, Array.getElem?_append]
  simp only [List.size_toArray]
  by_cases hk : k < vs.length
  ·rw [if_pos hk]; simp
  ·rw [if_neg hk, List.getElem?_eq_none (by omega)]
   simp only [Array.getElem?_replicate]
   split <;> rfl
 obtain ⟨m, K⟩ := pars_ok (B := B) (Z := Z) (w := w) h0 (vals := fun k => vs.getD k undef) (t := 0) hA hn (fun b hb => ⟨(hFs b hb).1, (hFs b hb).2, fun _ => hb⟩) k4 (fun i v hi => by simp [List.getD_eq_getElem?_getD, hi])
 refine calls_of_wp hf hc ?_
 have s : SE B fn.ntmps (ofL .junk (pars 0 ins xs).1) (ofL .absent (pars 0 ins xs).2) { tmps := vs.toArray ++ Array.replicate (fn.ntmps - vs.toArray.size) undef, defers := [] } w := by
  refine ⟨m, ⟨K.h, fun t => ?_, rfl⟩, ?_, fun i _ => htm i⟩
  ·rw [htm]; exact K.t t
  ·simp only [Array.size_append, List.size_toArray, Array.size_replicate]; omega
 have hfin := fin_ok (P := P) (B := B) (N := fn.ntmps) hT (fn := fn) (F := fnE tab T ann fn ins outs n) (Z := Z) (w0 := w) (Fs := Fs) (vs := vs) rfl hlen (r := r)
 have hL := runN_ok (P := P) (B := B) (N := fn.ntmps) (r := r) hm (T := T) (ann := ann) hfin n (fun k hk => hW k (by omega))
 have hcl := clos_ok (ann := ann) hm (hW n (Nat.le_refl _)) hL hfin [] rfl
 have := runS_ok hm (hW n (Nat.le_refl _)) hL (bodyOf fn) [] _ _ _ _ _ k1 rfl hcl s hr
 rw [hbody] at this
 exact this
theorem FunOk.spec {f : FuncId} {F : Nat → FunE} {ins : List (Bool × Ty)} {outs : List Ty} {g : (ins.foldr (fun p t => Ty.pair p.2 t) .unit).den → Option ((outs ++ (ins.filter (·.1)).map (·.2)).foldr Ty.pair .unit).den} (hF : ∀ n, FunOk P f (F n)) (hi : ∀ n, (F n).ins = ins) (ho : ∀ n, (F n).outs = outs) : True := trivial
end
end Go.Proofs.Ytadhpgecilhgnaa.A

-- YtadhpgecilhgnaaFn5
set_option linter.unusedVariables false
set_option linter.unusedSimpArgs false
namespace Go.Proofs.Ytadhpgecilhgnaa.A
open Go
def RowOk (P : Program) (f : FuncId) (e : Ty) (g : List e.den → Option (List e.den)) : Prop := ∀ (Z : Nat → Prop) (w : World) (xs ys : List e.den) (v : Value) (F : List Nat),
 (∀ b, Z b → b < w.heap.size) → Rep Z w (.vec e) xs [v] F → F.Nodup → (∀ b ∈ F, ¬ Z b ∧ b < w.heap.size) → g xs = some ys →
 Calls P f #[v] w fun ex w' => ex = .returned (.tuple #[]) ∧ Kept F w w' ∧ ys.length = xs.length ∧ Rep Z w' (.vec e) ys [v] F
structure FunC (P : Program) (f : FuncId) (F : FunE) : Prop where
 ok' : F.row = none → FunOk P f F
 ro : ∀ e g, F.row = some ⟨e, g⟩ → RowOk P f e g
 en : ∃ fn, P.funcs[f]? = some fn ∧ (fn.name == "runtime.NumGoroutine") = false ∧ fn.body.isNone = false
def TOk (P : Program) (T : Nat → Option FunE) : Prop := ∀ f F, T f = some F → FunC P f F
section
variable {P : Program} {B : Base} {m m' m0 : Md} {H H' : Hp} {w w' : World} {o : Oper} {a : Act} {E : Env} {tab : Nat → Option TI} {T : Nat → Option FunE} {N : Nat}

theorem wCallRow_ok {e : Ty} {g : List e.den → Option (List e.den)} {f : FuncId} (hF : RowOk P f e g) (hh : HOk B m H w) {as_ : List AV} {vs : List Value} (hv : All2 (AVRep m w H) as_ vs) (ex : (execOp a.eval o).run P w = .ok (.enter f vs.toArray) w) : WayOk P B m H w o a (wCallRow e g as_) := by
 unfold wCallRow
 split
 ·rename_i id
  match vs, hv with
  | [v], hv =>
   intro Q hQ
   simp only at hQ
   split at hQ
   ·rename_i e' xs hx
    split at hQ
    ·rename_i xs' hc
     obtain ⟨he, hxs⟩ := castTo_eq hc
     cases he
     have hxs : xs = xs' := hxs
     subst hxs
     obtain ⟨ys, hy, hQ⟩ := hQ
     have hQ : Q _ := hQ
     have hx := live_of_only hx
     have hL : (H id).Live := by rw [hx]; trivial
     have hcr := hh.cr id
     rw [hx] at hcr
     have hvd := hv.1.one.2.1 _ _ hx
     subst hvd
     refine ⟨_, _, hQ, ?_⟩
     unfold OpOk
     rw [ex]
     refine (hF m.Z w xs ys _ _ hh.zl hcr (hh.nd id hL) (fun b hb => ⟨(hh.nz id hL b hb).1, (hh.nz id hL b hb).2.1⟩) hy).mono fun e' w' ⟨h1, h2, h3, h4⟩ => ⟨_, h1, ?_⟩
     have hput := putH_cons H id (.live (.row e ys)) [] (by simp)
     have ch : Change B m H w (id :: []) (m.set id (m.hd id) (m.ft id)) (putH H ((id, .live (.row e ys)) :: deads [])) w' :=
      Change.one (w' := w') (ob := .row e ys) hh (by simp) (by simp) h2.os h2.tape h2.output h2.size (fun b hb hnB => h2.block b hb fun hbF => hnB ⟨id, by simp, hL, hbF⟩) h4 (fun z hz => ⟨(hh.nz id hL z hz).1, .inl ⟨id, by simp, hL, hz⟩⟩) (hh.nd id hL) (fun _ => EvoAt.row_ hx hput h3.symm (by simp only [Md.set]; rw [upd_same]))
     exact ⟨_, hh.change ch, hh.evo ch, ⟨[], rfl, trivial⟩⟩
    ·exact hQ.elim
   ·exact hQ.elim
 ·exact WayOk.fail

theorem enter_exec {c : Call} (ho : o.op = .call c) {x : Operand} (hc : c.callee = .value x) {f : FuncId} (hx : a.eval x = .func (.func f) #[] #[]) (hen : ∃ fn, P.funcs[f]? = some fn ∧ (fn.name == "runtime.NumGoroutine") = false ∧ fn.body.isNone = false) :
 (execOp a.eval o).run P w = .ok (.enter f (c.args.map a.eval)) w := by
 obtain ⟨fn, h1, h2, h3⟩ := hen
 simp only [execOp, ho, resolve, hc, hx]
 have h2 : ¬ fn.name = "runtime.NumGoroutine" := by simpa using h2
 have h3 : ¬ fn.body = none := fun hh => by rw [hh] at h3; cases h3
 simp [Deferred.ofValue, invoke, callFunc, h1, h2, h3]
theorem all2_args (s : St B m E H a w) : ∀ {xs : List Operand}, (∀ x ∈ xs, opndOkB x = true) → All2 (AVRep m w H) (xs.map (evalO E)) (xs.map a.eval)
 | [], _ => trivial
 | x :: xs, h => ⟨evalO_ok s (h x (by simp)), all2_args s fun y hy => h y (by simp [hy])⟩
theorem wCall_ok (hT : TabOk P tab) (hC : TOk P T) (s : St B m E H a w) {c : Call} (ho : o.op = .call c) (hx : ∀ x ∈ c.operands, opndOkB x = true) :
 WayOk P B m H w o a (wCall tab T o.dst c (c.args.toList.map (evalO E)) (match c.callee with | .value f => some (evalO E f) | _ => none)) := by
 have hargs := all2_args s (xs := c.args.toList) fun x h => hx x (by simp [Call.operands]; exact .inr (by simpa using h))
 have hmap : (c.args.map a.eval).toList = c.args.toList.map a.eval := by simp
 have hmap' : c.args.map a.eval = (c.args.toList.map a.eval).toArray := by rw [← hmap]
 unfold wCall
 cases hc : c.callee with
 | invoke r n => exact WayOk.fail
 | value x =>
  simp only
  split
  ·rename_i f u he
   split
   ·rename_i F hF
    have hfc := hC f F (by simpa using hF)
    simp only [Option.some.injEq] at he
    have hev := evalO_ok s (hx x (by simp [Call.operands, hc]))
    rw [he] at hev
    have hfv : a.eval x = .func (.func f) #[] #[] := by
     have := hev.one
     obtain ⟨h1, _⟩ := (this : [a.eval x] = [.func (.func f) #[] #[]] ∧ _)
     simpa using h1
    split
    ·rename_i q hq
     exact wCallRow_ok (hfc.ro _ _ hq) s.h hargs (by rw [enter_exec ho hc hfv hfc.en, hmap'])
    ·rename_i hq
     exact wCallM_ok (hfc.ok' hq) s.h hargs (by rw [enter_exec ho hc hfv hfc.en, hmap'])
   ·exact WayOk.fail
  ·exact WayOk.fail
 | builtin b =>
  cases b <;> simp only <;> try exact WayOk.fail
  case len =>
   split
   ·rename_i x hxs hsz
    have hsz := Nat.eq_of_beq_eq_true hsz
    match hc1 : c.args.toList, hxs, hargs with
    | [y], hxs, hargs =>
     simp only [List.map_cons, List.map_nil, List.cons.injEq, and_true] at hxs
     subst hxs
     rw [hc1] at hmap'
     have h1 := hargs.1
     refine wLen_ok hT s.h h1 fun n hn => exec_call_builtin ho hc ?_
     have hts : c.argTypes = #[c.argTypes.getD 0 0] := by
      apply Array.ext
      ·simpa using hsz
      ·intro i h1 h2
       have : i = 0 := by omega
       subst this
       simp [Array.getD, h1]
     generalize c.argTypes.getD 0 0 = t at hts hn
     rw [hts]
     simp only [builtin, hmap', List.map_cons, List.map_nil]
     rw [show ([a.eval y] : List Value).toArray = #[a.eval y] from rfl]
     simp only [Sem.run_bind, hn, Result.andThen_ok, Sem.run_pure]
   ·exact WayOk.fail
  case append =>
   split
   ·rename_i x y hxs
    match hc1 : c.args.toList, hxs, hargs with
    | [x1, y1], hxs, hargs =>
     simp only [List.map_cons, List.map_nil, List.cons.injEq, and_true] at hxs
     obtain ⟨rfl, rfl⟩ := hxs
     rw [hc1] at hmap'
     refine wAppendB_ok hT s.h hargs.1 hargs.2.1 fun v w' hv => ?_
     simp only [execOp, ho, resolve, hc]
     simp only [Sem.run_bind, Sem.run_pure, Result.andThen_ok, invoke, builtin, hmap', List.map_cons, List.map_nil]
     rw [show ([a.eval x1, a.eval y1] : List Value).toArray = #[a.eval x1, a.eval y1] from rfl, hv]
     rfl
   ·exact WayOk.fail
  case max =>
   refine wMinMax_ok s.h hargs (fun x y => by unfold mxI; split <;> simp) max2_run fun x rest u hl hu => exec_call_builtin ho hc ?_
   simp only [builtin, Builtin.max_, hmap, hl, Sem.run_bind, hu, Result.andThen_ok, Sem.run_pure]
  case min =>
   refine wMinMax_ok s.h hargs (fun x y => by unfold mnI; split <;> simp) min2_run fun x rest u hl hu => exec_call_builtin ho hc ?_
   simp only [builtin, Builtin.min_, hmap, hl, Sem.run_bind, hu, Result.andThen_ok, Sem.run_pure]

theorem wayD_ok (hT : TabOk P tab) (B : Base) (m : Md) (H : Hp) (w : World) (a : Act) (E : Env) (o : Oper) (t : DT (AV × List (Nat × Cell))) (hx : o.op.operands.toList.all opndOkB = true) (s : St B m E H a w) (h : wayD tab E H o = some t) : WayDOk P B m H w o a t := by
 have hx : ∀ x ∈ o.op.operands, opndOkB x = true := fun x h => List.all_eq_true.1 hx x (by simpa using h)
 unfold wayD at h
 split at h
 ·cases h
 ·split at h
  ·rename_i ho
   exact nilWay_ok hT s.h (.inl ⟨rfl, ho⟩) (evalO_ok s (hx _ (by rw [ho]; simp [Op.operands]))) h
  ·rename_i ho
   exact nilWay_ok hT s.h (.inr ⟨rfl, ho⟩) (evalO_ok s (hx _ (by rw [ho]; simp [Op.operands]))) h
  ·rename_i ho
   exact nextWay_ok s.h ho (evalO_ok s (hx _ (by rw [ho]; simp [Op.operands]))) h
  ·cases h
theorem way_ok (hT : TabOk P tab) (hC : TOk P T) : WaysOk P tab T := by
 refine ⟨fun B m H w a E o hx s => ?_, wayD_ok hT⟩
 have hx : ∀ x ∈ o.op.operands, opndOkB x = true := fun x h => List.all_eq_true.1 hx x (by simpa using h)
 unfold way
 cases ho : o.op <;> (try simp only [ho, Op.operands] at hx) <;> (try simp only) <;> try exact WayOk.fail
 case move x => exact WayOk.val s.h (by simp only [execOp, ho, Sem.run_pure]) (evalO_ok s (hx x (by simp)))
 case assign x => exact WayOk.val s.h (by simp only [execOp, ho, Sem.run_pure]) (evalO_ok s (hx x (by simp)))
 case pick c x y => exact wPick_ok s.h ho (evalO_ok s (hx c (by simp))) (evalO_ok s (hx x (by simp))) (evalO_ok s (hx y (by simp)))
 case nilCheck x => exact wNilCheckB_ok s.h ho (evalO_ok s (hx x (by simp)))
 case alloc t =>
  split
  ·rename_i i hi
   obtain ⟨inf, z, k1, k2, k3, k4, k5, k6⟩ := (hT t i hi).info
   refine wBox_ok (t := t) (v := .agg z.cells) s.h ⟨z.cells.toList, by simp [IsV], k6.mono fun _ _ h => h.l⟩ fun cs ⟨g, ls, h1, h2⟩ h3 => ?_
   cases h1
   have : z.cells = cs.toArray := by simpa [IsV] using h2
   rw [← this]
   exact alloc_exec ho k1 k4
  ·exact WayOk.fail
 case box t x =>
  refine wBox_ok (t := t) s.h (evalO_ok s (hx x (by simp))) fun cs ⟨g, ls, h1, h2⟩ h3 => box_exec ho (isV_cells h2 h3)
 case build t ps => exact wBuild_ok hT s.h ho (all2_parts s fun p hp => hx p.2 (by simp; exact ⟨p.1, by simpa using hp⟩))
 case buildSlice t n ps => exact wBuildSliceF_ok hT s.h ho (all2_parts s fun p hp => hx p.2 (by simp; exact ⟨p.1, by simpa using hp⟩))
 case load t x => exact wLoadB_ok hT s.h ho (evalO_ok s (hx x (by simp)))
 case store t x y => exact wStore_ok hT s.h ho (evalO_ok s (hx x (by simp))) (evalO_ok s (hx y (by simp)))
 case binOp op t x y yt => exact wBinN_ok hT s.h ho (evalO_ok s (hx x (by simp))) (evalO_ok s (hx y (by simp)))
 case unOp op t x => exact wUn_ok s.h ho (evalO_ok s (hx x (by simp)))
 case convert t d x => exact wConvertB_ok hT s.h ho (evalO_ok s (hx x (by simp)))
 case makeSlice t x y => exact wMakeSlice_ok hT s.h ho (evalO_ok s (hx x (by simp))) (evalO_ok s (hx y (by simp)))
 case slice t x lo hi mx =>
  cases mx with
  | some _ => exact WayOk.fail
  | none => exact wSlice_ok hT s.h ho (evalO_ok s (hx x (by simp))) (optRep_map s fun y hy => hx y (by simp [hy])) (optRep_map s fun y hy => hx y (by simp [hy]))
 case fieldAddr t x f => exact wFieldAddrB_ok hT s.h ho (evalO_ok s (hx x (by simp)))
 case field t x f => exact wField_ok hT s.h ho (evalO_ok s (hx x (by simp)))
 case indexAddr t x i => exact wIndexAddr_ok hT s.h ho (evalO_ok s (hx x (by simp))) (evalO_ok s (hx i (by simp)))
 case index t x i => exact wIndex_ok hT s.h ho (evalO_ok s (hx x (by simp))) (evalO_ok s (hx i (by simp)))
 case extract x n => exact wExtract_ok s.h ho (evalO_ok s (hx x (by simp)))
 case call c => exact wCall_ok hT hC s ho hx
 case makeMap t r =>
  cases r with
  | some _ => exact WayOk.fail
  | none => exact wMakeMapB_ok hT s.h ho
 case insert t x k y => exact wMapUpdateB_ok hT s.h (.inr ho) (evalO_ok s (hx x (by simp))) (evalO_ok s (hx k (by simp))) (evalO_ok s (hx y (by simp)))
 case mapUpdate t x k y => exact wMapUpdateB_ok hT s.h (.inl ho) (evalO_ok s (hx x (by simp))) (evalO_ok s (hx k (by simp))) (evalO_ok s (hx y (by simp)))
 case range t x => exact wRange_ok hT s.h ho (evalO_ok s (hx x (by simp)))
 case entry x => exact wEntry_ok s.h ho (evalO_ok s (hx x (by simp)))
 case lookup t x k ok => exact wLookupB_ok hT s.h ho (evalO_ok s (hx x (by simp))) (evalO_ok s (hx k (by simp)))
end
end Go.Proofs.Ytadhpgecilhgnaa.A

-- YtadhpgecilhgnaaOpn
set_option linter.unusedVariables false
set_option linter.unusedSimpArgs false
namespace Go.Proofs.Ytadhpgecilhgnaa.A
open Go

def Ty.low : Ty → Nat
 | .bool => 1
 | .int k => k.bits / 8
 | .str => 16
 | .sl _ => 24
 | .pair a b => a.low + b.low
 | _ => 0
def okT : (τ : Ty) → τ.den → Prop
 | .int k, n => k.min ≤ n ∧ n ≤ k.max
 | .str, s => s.length ≤ 140737488351232
 | .sl e, xs => xs.length ≤ 140737488351232 ∧ xs.length * e.low ≤ 140737488351232 ∧ ∀ x ∈ xs, okT e x
 | .pair a b, x => okT a x.1 ∧ okT b x.2
 | _, _ => True
def fitB (P : Program) : Nat → Ty → Nat ⊕ (List Go.Field × Nat) → Bool
 | 0, _, _ => false
 | n + 1, τ, .inl t => (match P.underlying t, τ with
  | some .bool, .bool => true
  | some (.int k'), .int k => decide (k' = k)
  | some .string, .str => true
  | some (.slice et), .sl e => fitB P n e (.inl et) && Nat.beq (P.cellsOf et) e.cells && Nat.ble 1 e.cells && Nat.ble e.low (P.bytesOf et) && Nat.ble 1 (P.bytesOf et)
  | some (.struct fs), τ => Nat.beq (P.cellsOf t) τ.cells && fitB P n τ (.inr (fs.toList, 0))
  | _, _ => false)
 | n + 1, τ, .inr ([f], off) => Nat.beq f.offset off && fitB P n τ (.inl f.type) && Nat.beq (P.cellsOf f.type) τ.cells
 | n + 1, .pair a b, .inr (f :: g :: fs, off) => Nat.beq f.offset off && fitB P n a (.inl f.type) && Nat.beq (P.cellsOf f.type) a.cells && fitB P n b (.inr (g :: fs, off + a.cells))
 | _, _, _ => false

section
variable {P : Program} {w : World} {Z : Nat → Prop}
theorem list_of {α : Type} (p : Nat → α → Prop) : ∀ n : Nat, (∀ i, i < n → ∃ y, p i y) → ∃ l : List α, l.length = n ∧ ∀ i y, l[i]? = some y → p i y := by
 intro n
 induction n with
 | zero => intro _; exact ⟨[], rfl, fun i y h => by simp at h⟩
 | succ n ih =>
  intro h
  obtain ⟨l, hl, hp⟩ := ih (fun i hi => h i (by omega))
  obtain ⟨y, hy⟩ := h n (by omega)
  refine ⟨l ++ [y], by simp [hl], fun i z hz => ?_⟩
  by_cases hi : i < l.length
  ·exact hp i z (by rwa [List.getElem?_append_left hi] at hz)
  ·rw [List.getElem?_append_right (by omega)] at hz
   have hi2 : i - l.length < 1 := by
    rcases Nat.lt_or_ge (i - l.length) 1 with h | h
    ·exact h
    ·rw [List.getElem?_eq_none (by simpa using h)] at hz
     cases hz
   have e : i = n := by omega
   subst e
   rw [hl] at hz
   simp at hz
   subst hz
   exact hy
theorem weightsAll_mem {H : Type} {P : Program} {e : TypeId} {d : DataW H} : ∀ {l : List (DataW H)}, d ∈ l → ∀ n ∈ d.weights P e, n ∈ DataW.weightsAll P e l := by
 intro l
 induction l with
 | nil => intro h; cases h
 | cons a l ih =>
  intro h n hn
  rw [DataW.weightsAll, List.mem_append]
  rcases List.mem_cons.1 h with rfl | h
  ·exact .inl hn
  ·exact .inr (ih h n hn)
theorem int_wf {k : IntKind} {n : Int} (h : (Lit.int k n).wf = true) : k.min ≤ n ∧ n ≤ k.max := by
 simpa [Lit.wf] using h
theorem repL_of {e : Ty} {b o : Nat} : ∀ (l : List e.den) (k : Nat), (∀ (i : Nat) (y : e.den), l[i]? = some y → ∃ c, Rep Z w e y c [] ∧ ∀ (j : Nat) (u : Value), c[j]? = some u → w.cell? ⟨b, o + ((k + i) * e.cells + j), none⟩ = some u) →
 ∃ c, RepL (fun x c F => Rep Z w e x c F) l c [] ∧ ∀ (j : Nat) (u : Value), c[j]? = some u → w.cell? ⟨b, o + (k * e.cells + j), none⟩ = some u
 | [], k, _ => ⟨[], ⟨rfl, rfl⟩, by simp⟩
 | y :: l, k, h => by
  obtain ⟨c, h1, h2⟩ := h 0 y rfl
  obtain ⟨cs, g1, g2⟩ := repL_of l (k + 1) fun i z hz => by
   have := h (i + 1) z (by simpa using hz)
   rwa [show k + (i + 1) = k + 1 + i by omega] at this
  refine ⟨c ++ cs, ⟨c, cs, [], [], rfl, rfl, h1, g1⟩, fun j u hu => ?_⟩
  have hl := h1.len
  rw [List.getElem?_append] at hu
  split at hu
  ·exact h2 j u hu
  ·rename_i hj
   have := g2 _ u hu
   rwa [show o + ((k + 1) * e.cells + (j - c.length)) = o + (k * e.cells + j) by rw [Nat.succ_mul]; omega] at this

theorem fit_ok (hZ : ∀ b, b < w.heap.size → Z b) {H : Type} {enc : TypeId × Value → H} : ∀ (n : Nat) (τ : Ty) (q : Nat ⊕ (List Go.Field × Nat)), fitB P n τ q = true → match q with
 | .inl t => ∀ {fuel : Nat} {cs : List Value} {x : DataW H × List MemPlace}, DataW.trod enc P w 0 (fun _ => true) true fuel t cs = some x → (∀ n ∈ x.1.weights P t, n ≤ reachBytes) → ∃ y, Rep Z w τ y cs [] ∧ okT τ y
 | .inr (fs, off) => ∀ {fuel : Nat} {cs : List Value} {xs : List (DataW H × List MemPlace)}, xs.length = fs.length → cs.length = off + τ.cells →
  (∀ (i : Nat) (f : Go.Field), fs[i]? = some f → DataW.trod enc P w 0 (fun _ => true) true fuel f.type ((cs.drop f.offset).take (P.cellsOf f.type)) = xs[i]?) →
  (∀ m ∈ DataW.weightsEach P (fs.map (·.type)) (xs.map (·.1)), m ≤ reachBytes) → ∃ y, Rep Z w τ y (cs.drop off) [] ∧ okT τ y := by
 intro n
 induction n with
 | zero => intro τ q h; cases h
 | succ n ih =>
  intro τ q h
  cases q with
  | inl t =>
   intro fuel cs x hx hw
   simp only [fitB] at h
   split at h
   ·rename_i hu
    obtain ⟨b, rfl, _⟩ := DataW.trod_bool hu hx
    exact ⟨b, ⟨rfl, rfl⟩, trivial⟩
   ·rename_i k' k hu
    have hk : k' = k := by simpa using h
    subst hk
    obtain ⟨m, rfl, _, hm⟩ := DataW.trod_int hu hx
    exact ⟨m, ⟨rfl, rfl, int_wf hm⟩, int_wf hm⟩
   ·rename_i hu
    obtain ⟨s, rfl, rfl, hs⟩ := DataW.trod_string hu hx
    have := hw s.data.toList.length (by simp [DataW.weights])
    have hl : s.data.toList.length ≤ 140737488351232 := by simpa [reachBytes] using this
    exact ⟨s.data.toList, ⟨rfl, rfl, by unfold big; omega⟩, hl⟩
   ·rename_i et e hu
    simp only [Bool.and_eq_true] at h
    obtain ⟨⟨⟨⟨h1, h2⟩, h3⟩, h4⟩, h5⟩ := h
    have h2 := Nat.eq_of_beq_eq_true h2
    have h3 := Nat.le_of_ble_eq_true h3
    have h4 := Nat.le_of_ble_eq_true h4
    have h5 := Nat.le_of_ble_eq_true h5
    rcases DataW.trod_slice hu hx with ⟨rfl, rfl⟩ | ⟨a, len, cap, elems, rest, m, _, rfl, rfl, hb, hl, hm, hlen, hel, hsp, _⟩
    ·exact ⟨[], ⟨rfl, by simp, none, 0, rfl, by simp, .inl rfl⟩, by simp, by simp, by simp⟩
    ·have each : ∀ i, i < len → ∃ y, (∃ c, Rep Z w e y c [] ∧ ∀ (j : Nat) (u : Value), c[j]? = some u → w.cell? (a.add (i * e.cells + j)) = some u) ∧ okT e y := by
      intro i hi
      have h1' := hel i hi
      have hi2 : i < elems.length := by omega
      rw [List.getElem?_eq_getElem hi2, Option.bind_eq_some_iff] at h1'
      obtain ⟨c, hcs, hc2⟩ := h1'
      obtain ⟨_, hcl, hcc⟩ := World.cells?_some hcs
      obtain ⟨y, hy, ho⟩ := ih e (.inl et) h1 hc2 (fun m hm => hw m (by
       rw [DataW.weights]
       simp only [hu, List.mem_cons, List.mem_append]
       exact .inr (.inl (weightsAll_mem (List.mem_map_of_mem (f := Prod.fst) (List.getElem_mem hi2)) m hm))))
      refine ⟨y, ⟨c, hy, fun j u hu' => ?_⟩, ho⟩
      have hj : j < P.cellsOf et := by
       rcases Nat.lt_or_ge j c.length with h | h
       ·omega
       ·rw [List.getElem?_eq_none h] at hu'
        cases hu'
      have := hcc j hj
      rw [hu', Go.Addr.add_add, h2] at this
      exact this
     obtain ⟨l, hll, hp⟩ := list_of _ len each
     have hlb : len * P.bytesOf et ≤ 140737488351232 := by
      have h1 : ((elems.map (·.1)).length + (rest.map (·.1)).length) * P.bytesOf et ≤ reachBytes := hw _ (by
       rw [DataW.weights]
       simp only [hu]
       exact List.mem_cons_self)
      have h2 : len * P.bytesOf et ≤ ((elems.map (·.1)).length + (rest.map (·.1)).length) * P.bytesOf et := Nat.mul_le_mul_right _ (by simp; omega)
      simpa [reachBytes] using Nat.le_trans h2 h1
     have hl1 : len ≤ 140737488351232 := Nat.le_trans (by simpa using Nat.mul_le_mul_left len h5) hlb
     have hl2 : len * e.low ≤ 140737488351232 := Nat.le_trans (Nat.mul_le_mul_left len h4) hlb
     refine ⟨l, ⟨rfl, by unfold big; omega, some a, cap, by rw [hll], by omega, ?_⟩, by omega, by rw [hll]; exact hl2, fun x hx => ?_⟩
     ·by_cases hl0 : l = []
      ·exact .inl hl0
      ·right
       have h0 : 0 < l.length := List.length_pos_iff.2 hl0
       -- the first cell
       obtain ⟨⟨c, hc1, hc2⟩, _⟩ := hp 0 _ (List.getElem?_eq_getElem h0)
       have hc0 : 0 < c.length := by rw [hc1.len]; omega
       have hcell := hc2 0 _ (List.getElem?_eq_getElem hc0)
       rw [show a.add (0 * e.cells + 0) = a by simp [Go.Addr.add]] at hcell
       have hadd : a.spot = none ∧ a.block < w.heap.size := by
        obtain ⟨bb, oo, ss⟩ := a
        simp only [World.cell?] at hcell
        cases ss with
        | none =>
         refine ⟨rfl, ?_⟩
         cases hh : w.heap[bb]? with
         | none => rw [hh] at hcell; cases hcell
         | some ob => exact (Array.getElem?_eq_some_iff.1 hh).1
        | some s =>
         split at hcell
         ·simp at hcell
         ·cases hcell
       obtain ⟨bb, oo, ss⟩ := a
       obtain ⟨hs, hbb⟩ := hadd
       simp only at hs hbb
       subst hs
       obtain ⟨cc, g1, g2⟩ := repL_of (Z := Z) (w := w) (b := bb) (o := oo) l 0 fun i y hy => by
        obtain ⟨⟨c, k1, k2⟩, _⟩ := hp i y hy
        exact ⟨c, k1, fun j u hu => by have := k2 j u hu; rw [aad] at this; rwa [Nat.zero_add]⟩
       exact ⟨bb, oo, cc, rfl, hZ bb hbb, g1, fun j u hu => by have := g2 j u hu; rwa [Nat.zero_mul, Nat.zero_add] at this⟩
     ·obtain ⟨i, hi⟩ := List.getElem?_of_mem hx
      exact (hp i x hi).2
   ·rename_i fs hu
    simp only [Bool.and_eq_true] at h
    have hc := Nat.eq_of_beq_eq_true h.1
    obtain ⟨xs, m, _, rfl, hcl, hxl, hf⟩ := DataW.trod_struct hu hx
    have := ih _ (.inr (fs.toList, 0)) h.2 (fuel := m) (cs := cs) (xs := xs) (by simpa using hxl) (by rw [hcl, hc]; simp) (fun i f hi => hf i f (by simpa using hi)) (fun m hm => hw m (by
     rw [DataW.weights]
     simp only [hu]
     exact hm))
    simpa using this
   ·cases h
  | inr p =>
   obtain ⟨fs, off⟩ := p
   intro fuel cs xs hxs hcs hf hw
   match fs, hxs, hf, hw, h with
   | [], _, _, _, h => simp [fitB] at h
   | [f], hxs, hf, hw, h =>
    simp only [fitB, Bool.and_eq_true] at h
    obtain ⟨⟨h1, h2⟩, h3⟩ := h
    have h1 := Nat.eq_of_beq_eq_true h1
    have h3 := Nat.eq_of_beq_eq_true h3
    obtain ⟨x, rfl⟩ : ∃ x, xs = [x] := by
     match xs, hxs with
     | [x], _ => exact ⟨x, rfl⟩
    have hx := hf 0 f rfl
    rw [h1, List.take_of_length_le (by simp; omega)] at hx
    exact ih τ (.inl f.type) h2 hx (fun m hm => hw m (by simpa [DataW.weightsEach] using hm))
   | f :: g :: fs, hxs, hf, hw, h =>
    cases τ <;> try (simp [fitB] at h; done)
    rename_i a b _
    simp only [fitB, Bool.and_eq_true] at h
    obtain ⟨⟨⟨h1, h2⟩, h3⟩, h4⟩ := h
    have h1 := Nat.eq_of_beq_eq_true h1
    have h3 := Nat.eq_of_beq_eq_true h3
    match xs, hxs with
    | x :: xs, hxs =>
     have hx := hf 0 f rfl
     rw [h1] at hx
     obtain ⟨y, hy, hoy⟩ := ih a (.inl f.type) h2 (x := x) hx (fun m hm => hw m (by simp [DataW.weightsEach]; exact .inl hm))
     obtain ⟨z, hz, hoz⟩ := ih b (.inr (g :: fs, off + a.cells)) h4 (fuel := fuel) (cs := cs) (xs := xs) (by simpa using hxs) (by rw [hcs]; simp only [Ty.cells]; omega) (fun i f' hi => by have := hf (i + 1) f' (by simpa using hi); simpa using this) (fun m hm => hw m (by
      simp only [List.map_cons, DataW.weightsEach, List.mem_append]
      simp only [List.map_cons, DataW.weightsEach, List.mem_append] at hm
      exact .inr hm))
     refine ⟨(y, z), ⟨_, _, [], [], ?_, rfl, hy, hz⟩, hoy, hoz⟩
     rw [h3, ← List.drop_drop, List.take_append_drop]
theorem weights_of {H : Type} {P : Program} {t : TypeId} {x : DataW H} : ∀ {ts : List TypeId} {ds : List (DataW H)} {j : Nat}, (DataW.weightsEach P ts ds).all (· ≤ reachBytes) = true → ts[j]? = some t → ds[j]? = some x → ∀ n ∈ x.weights P t, n ≤ reachBytes := by
 intro ts
 induction ts with
 | nil => intro ds j _ h; simp at h
 | cons a ts ih =>
  intro ds j hw ht hd n hn
  match ds with
  | [] => simp at hd
  | d :: ds =>
   rw [DataW.weightsEach, List.all_append, Bool.and_eq_true] at hw
   cases j with
   | zero =>
    simp at ht hd
    subst ht; subst hd
    simpa using List.all_eq_true.1 hw.1 n hn
   | succ j => exact ih hw.2 (by simpa using ht) (by simpa using hd) n hn
def argFitB (P : Program) (τ : Ty) (t : Nat) : Bool := fitB P 60 τ (.inl t) && (match P.underlying t with | some (.struct _) => !τ.one | _ => τ.one)
theorem arg_open (hZ : ∀ b, b < w.heap.size → Z b) {H : Type} {enc : TypeId × Value → H} {τ : Ty} {t : Nat} (hfit : argFitB P τ t = true) {r : Reach} {base : Nat} {v : Value} {x : DataW H} {ps : List MemPlace} {ts : List TypeId} {ds : List (DataW H)} {j : Nat}
 (hsz : (DataW.weightsEach P ts ds).all (· ≤ reachBytes) = true) (hj : ts[j]? = some t) (hd : ds[j]? = some x) (hv : Value.okWide P w r base t v) (h : DataW.Trod enc P w 0 (fun _ => true) true t v x ps) :
 ∃ y, ArgRep Z w false τ y v [] ∧ okT τ y := by
 unfold argFitB at hfit
 rw [Bool.and_eq_true] at hfit
 obtain ⟨fuel, hf⟩ := h
 have hwt : ∀ n ∈ x.weights P t, n ≤ reachBytes := weights_of hsz hj hd
 obtain ⟨y, hy, ho⟩ := fit_ok (P := P) hZ 60 τ (.inl t) hfit.1 hf hwt
 refine ⟨y, ⟨v.cells.toList, ?_, hy⟩, ho⟩
 have h2 := hfit.2
 have h1 : fitB P (59 + 1) τ (.inl t) = true := hfit.1
 unfold fitB at h1
 split at h1
 ·rename_i hu
  rw [hu] at h2
  obtain ⟨c, rfl⟩ := WideShapes.okWide_bool hu hv
  rw [show (!Ty.bool.one) = false from rfl]; rfl
 ·rename_i k' k hu
  obtain ⟨c, rfl⟩ := WideShapes.okWide_int hu hv
  rfl
 ·rename_i hu
  obtain ⟨c, rfl⟩ := WideShapes.okWide_string hu hv
  rfl
 ·rename_i et e hu
  obtain ⟨a, len, cap, rfl⟩ := WideShapes.okWide_slice hu hv
  rfl
 ·rename_i fs hu
  rw [hu] at h2
  obtain ⟨cs, rfl, _⟩ := WideShapes.okWide_struct hu hv
  simp only at h2
  rw [h2]
  simp [IsV, Value.cells]
 ·cases h1
end
end Go.Proofs.Ytadhpgecilhgnaa.A

-- YtadhpgecilhgnaaTb
set_option linter.unusedVariables false
set_option linter.unusedSimpArgs false
namespace Go.Proofs.Ytadhpgecilhgnaa.A
open Go
def zrepB : LV → Value → Bool
 | .v .bool b, .bool c => b == c
 | .v (.int k) n, .int k' m => decide (k' = k) && decide (m = n) && decide (k.min ≤ n) && decide (n ≤ k.max)
 | .v .str l, .string s => decide (s.data.toList = l) && decide (l.length ≤ big)
 | .nils, .slice none 0 0 => true
 | .nilm, .map none => true
 | .nilp, .pointer none => true
 | .junk, _ => true
 | _, _ => false
def zrepsB : List LV → List Value → Bool
 | [], [] => true
 | l :: ls, c :: cs => zrepB l c && zrepsB ls cs
 | _, _ => false
def aggB : Value → Bool
 | .agg _ => true
 | .tuple _ => false
 | _ => false
def oneFitsB (P : Program) (t : Nat) : Ty → Bool
 | .int k => (match P.underlying t with | some (.int k') => decide (k' = k) | _ => false)
 | .bool => (match P.underlying t with | some .bool => true | _ => false)
 | .str => (match P.underlying t with | some .string => true | _ => false)
 | _ => false
def eqFB (P : Program) : Nat → List Go.Field → Ty → Bool
 | _, [], _ => false
 | off, [f], τ => decide (f.name ≠ "_") && Nat.beq f.offset off && oneFitsB P f.type τ
 | off, f :: g :: fs, .pair a b => decide (f.name ≠ "_") && Nat.beq f.offset off && oneFitsB P f.type a && eqFB P (off + 1) (g :: fs) b
 | _, _, _ => false
def descFitsB (i : TI) (d : TypeDesc) : Bool :=
 match i.ty, d with
 | .int k, .int k' => decide (k' = k)
 | .int _, _ => false
 | .bool, .bool => true
 | .bool, _ => false
 | .str, .string => true
 | .str, _ => false
 | .sl _, .slice e => Nat.beq e i.elem
 | .sl _, _ => false
 | .map _ _, .map k e => Nat.beq k i.key && Nat.beq e i.elem
 | .map _ _, _ => false
 | .ptr _, .pointer _ => true
 | .ptr _, _ => false
 | _, _ => true
def fieldsB : List Go.Field → List (Nat × Nat) → Bool
 | [], [] => true
 | f :: fs, p :: ps => Nat.beq f.offset p.1 && Nat.beq f.type p.2 && fieldsB fs ps
 | _, _ => false
def rowOkB (P : Program) (t : Nat) (i : TI) : Bool :=
 (match P.info? t with
  | some inf => Nat.beq inf.size i.ty.cells && Nat.beq inf.bytes i.bytes && (match inf.zero with | some z => (aggB z == i.agg) && zrepsB i.zero z.cells.toList && (i.agg || (match z with | .tuple _ => false | _ => true)) | none => false)
  | none => false) &&
 (i.agg || i.ty.one) && Nat.beq i.zero.length i.ty.cells && Nat.ble i.bytes 4096 &&
 (match i.agg with
  | true => (match P.underlying t with
   | some (.struct fs) => (fs.toList.mapM (fun f => (P.info? f.type).map fun i => (f.offset, i.size))).isSome && (!i.ty.eqB || (eqFB P 0 fs.toList i.ty && !(P.eqGuardType P.depth t))) && !(P.stoodInHeld t) && fieldsB fs.toList i.fields
   | _ => false)
  | false => (match P.underlying t with | some d => plainDesc d && descFitsB i d | none => false))
section
variable {P : Program}
theorem zrep_of : ∀ {l : LV} {c : Value}, zrepB l c = true → ZRep l c := by
 intro l c h
 unfold zrepB at h
 split at h
 ·rename_i b c
  have : b = c := by simpa using h
  subst this
  rfl
 ·simp only [Bool.and_eq_true, decide_eq_true_eq] at h
  obtain ⟨⟨⟨rfl, rfl⟩, h3⟩, h4⟩ := h
  exact ⟨rfl, h3, h4⟩
 ·rename_i l s
  simp only [Bool.and_eq_true, decide_eq_true_eq] at h
  obtain ⟨h1, h2⟩ := h
  subst h1
  exact ⟨rfl, h2⟩
 ·rfl
 ·rfl
 ·rfl
 ·trivial
 ·cases h
theorem zreps_of : ∀ {ls : List LV} {cs : List Value}, zrepsB ls cs = true → All2 ZRep ls cs
 | [], [], _ => trivial
 | l :: ls, c :: cs, h => by
  simp only [zrepsB, Bool.and_eq_true] at h
  exact ⟨zrep_of h.1, zreps_of h.2⟩
 | [], _ :: _, h => by cases h
 | _ :: _, [], h => by cases h
theorem oneFits_of {t : Nat} {τ : Ty} (h : oneFitsB P t τ = true) : oneFits P t τ := by
 cases τ <;> try (cases h; done)
 all_goals
  simp only [oneFitsB] at h
  split at h
 ·rename_i hu; exact hu
 ·cases h
 ·rename_i k' hu
  have h := of_decide_eq_true h
  subst h
  exact hu
 ·cases h
 ·rename_i hu; exact hu
 ·cases h
theorem eqF_of : ∀ {fs : List Go.Field} {off : Nat} {τ : Ty}, eqFB P off fs τ = true → EqF P off fs τ
 | [], off, τ, h => by simp [eqFB] at h
 | [f], off, τ, h => by
  simp only [eqFB, Bool.and_eq_true, decide_eq_true_eq] at h
  obtain ⟨⟨h1, h2⟩, h3⟩ := h
  cases τ <;> exact ⟨h1, Nat.eq_of_beq_eq_true h2, oneFits_of h3⟩
 | f :: g :: fs, off, τ, h => by
  cases τ <;> try (simp [eqFB] at h; done)
  simp only [eqFB, Bool.and_eq_true, decide_eq_true_eq] at h
  obtain ⟨⟨⟨h1, h2⟩, h3⟩, h4⟩ := h
  exact ⟨h1, Nat.eq_of_beq_eq_true h2, oneFits_of h3, eqF_of h4⟩
theorem descFits_of {i : TI} {d : TypeDesc} (h : descFitsB i d = true) : descFits i d := by
 unfold descFitsB at h
 unfold descFits
 generalize i.ty = τ at h ⊢
 cases τ <;> cases d <;> first
  | exact False.elim (Bool.false_ne_true h)
  | exact trivial
  | exact rfl
  | exact ⟨_, rfl⟩
  | exact congrArg TypeDesc.int (of_decide_eq_true h)
  | exact congrArg TypeDesc.slice (Nat.eq_of_beq_eq_true h)
  | exact (by
   have h := (Bool.and_eq_true _ _).mp h
   exact congr (congrArg TypeDesc.map (Nat.eq_of_beq_eq_true h.1)) (Nat.eq_of_beq_eq_true h.2))
theorem fields_of : ∀ {fs : List Go.Field} {ps : List (Nat × Nat)}, fieldsB fs ps = true → fs.length = ps.length ∧ ∀ (f o ft : Nat), ps[f]? = some (o, ft) → ∃ fd : Go.Field, fs[f]? = some fd ∧ fd.offset = o ∧ fd.type = ft
 | [], [], _ => ⟨rfl, by simp⟩
 | f :: fs, p :: ps, h => by
  simp only [fieldsB, Bool.and_eq_true] at h
  obtain ⟨⟨h1, h2⟩, h3⟩ := h
  obtain ⟨g1, g2⟩ := fields_of h3
  refine ⟨by simp [g1], fun k o ft hk => ?_⟩
  cases k with
  | zero =>
   simp only [List.getElem?_cons_zero, Option.some.injEq] at hk
   subst hk
   exact ⟨f, rfl, Nat.eq_of_beq_eq_true h1, Nat.eq_of_beq_eq_true h2⟩
  | succ k => simpa using g2 k o ft (by simpa using hk)
 | [], _ :: _, h => by cases h
 | _ :: _, [], h => by cases h
theorem rowOk_of {t : Nat} {i : TI} (h : rowOkB P t i = true) : TyOk P t i := by
 unfold rowOkB at h
 simp only [Bool.and_eq_true] at h
 obtain ⟨⟨⟨⟨h1, h2⟩, h3⟩, h4⟩, h5⟩ := h
 have hagg : i.agg = true → ∃ fs : Array Go.Field, P.underlying t = some (.struct fs) ∧ (fs.toList.mapM (fun f => (P.info? f.type).map fun i => (f.offset, i.size))).isSome = true ∧ (!i.ty.eqB || (eqFB P 0 fs.toList i.ty && !(P.eqGuardType P.depth t))) = true ∧ P.stoodInHeld t = false ∧ fieldsB fs.toList i.fields = true := fun ha => by
  rw [ha] at h5
  simp only at h5
  split at h5
  ·rename_i fs hu
   simp only [Bool.and_eq_true, Bool.not_eq_true'] at h5
   obtain ⟨⟨⟨a1, a2⟩, a3⟩, a4⟩ := h5
   exact ⟨fs, hu, a1, a2, a3, a4⟩
  ·cases h5
 refine ⟨?_, fun ha => ?_, Nat.eq_of_beq_eq_true h3, Nat.le_of_ble_eq_true h4, fun ha => ?_, fun ha he => ?_, fun ha he => ?_, ?_⟩
 ·split at h1
  ·rename_i inf hi
   simp only [Bool.and_eq_true] at h1
   obtain ⟨⟨g1, g2⟩, g3⟩ := h1
   split at g3
   ·rename_i z hz
    simp only [Bool.and_eq_true] at g3
    obtain ⟨⟨k1, k2⟩, k3⟩ := g3
    refine ⟨inf, z, hi, Nat.eq_of_beq_eq_true g1, Nat.eq_of_beq_eq_true g2, hz, ?_, zreps_of k2⟩
    have k1 : aggB z = i.agg := by simpa using k1
    rw [← k1]
    cases z <;> first | rfl | simp [aggB, IsV, Value.cells]
   ·cases g3
  ·cases h1
 ·rw [ha] at h2; simpa using h2
 ·obtain ⟨fs, a1, a2, _⟩ := hagg ha
  obtain ⟨pl, hp⟩ := Option.isSome_iff_exists.1 a2
  exact ⟨fs, pl, a1, hp⟩
 ·obtain ⟨fs, a1, _, a3, _⟩ := hagg ha
  rw [he] at a3
  simp only [Bool.not_true, Bool.false_or, Bool.and_eq_true] at a3
  exact ⟨fs, a1, eqF_of a3.1⟩
 ·obtain ⟨fs, a1, _, a3, _⟩ := hagg ha
  rw [he] at a3
  simp only [Bool.not_true, Bool.false_or, Bool.and_eq_true] at a3
  simpa using a3.2
 ·cases ha : i.agg with
  | true =>
   obtain ⟨fs, a1, _, _, a4, a5⟩ := hagg ha
   obtain ⟨f1, f2⟩ := fields_of a5
   exact ⟨fs, a1, a4, fun f o ft hf => by obtain ⟨fd, q1, q2⟩ := f2 f o ft hf; exact ⟨fd, by simpa using q1, q2⟩, by simpa using f1⟩
  | false =>
   rw [ha] at h5
   simp only at h5
   split at h5
   ·rename_i d hu
    simp only [Bool.and_eq_true] at h5
    exact ⟨d, hu, h5.1, descFits_of h5.2⟩
   ·cases h5
def tabOkB (P : Program) (l : List (Nat × Option TI)) : Bool := l.all fun p => match p.2 with | some i => rowOkB P p.1 i | none => true
theorem tabOk_of {l : List (Nat × Option TI)} (h : tabOkB P l = true) : TabOk P (ofL none l) := by
 intro t i hi
 induction l with
 | nil => cases hi
 | cons p l ih =>
  unfold tabOkB at h
  rw [List.all_cons, Bool.and_eq_true] at h
  obtain ⟨k, x⟩ := p
  rw [ofL_cons] at hi
  by_cases hk : t = k
  ·subst hk
   rw [upd_same] at hi
   subst hi
   exact rowOk_of h.1
  ·rw [upd_other _ _ hk] at hi
   exact ih h.2 hi
end
end Go.Proofs.Ytadhpgecilhgnaa.A

-- YtadhpgecilhgnaaLw
set_option linter.unusedVariables false
set_option linter.unusedSimpArgs false
namespace Go.Proofs.Ytadhpgecilhgnaa.A
open Go
section
variable {P : Program} {tab : Nat → Option TI}
theorem TOk.nil : TOk P (ofL none []) := fun _ _ h => by cases h
theorem TOk.cons {f : Nat} {F : FunE} {l : List (Nat × Option FunE)} (h : FunC P f F) (hl : TOk P (ofL none l)) : TOk P (ofL none ((f, some F) :: l)) := by
 intro g G hg
 rw [ofL_cons] at hg
 by_cases e : g = f
 ·subst e
  rw [upd_same] at hg
  cases hg
  exact h
 ·rw [upd_other _ _ e] at hg
  exact hl g G hg
theorem funC_of (hm : P.follows .mixedOrders = true) (hT : TabOk P tab) {f : FuncId} {fn : Func} (hf : P.funcs[f]? = some fn) {T : Nat → Nat → Option FunE} {ann : Nat → Option (List Keep)} {ins : List (Bool × Ty)} {outs : List Ty} {n : Nat} (hC : ∀ k, TOk P (T k)) (hk : fnOkB fn ins = true) (hn : (fn.name == "runtime.NumGoroutine") = false) : FunC P f (fnE tab T ann fn ins outs n) := by
 refine ⟨fun _ => fnE_ok hm hT hf (fun k _ => way_ok hT (hC k)) hk, fun _ _ h => (by cases h), fn, hf, hn, ?_⟩
 simp only [fnOkB, Bool.and_eq_true] at hk
 have := hk.1.1.2
 cases hb : fn.body with
 | none => rw [hb] at this; cases this
 | some _ => rfl
theorem FunC.spec {f : FuncId} {ins : List (Bool × Ty)} {outs : List Ty} {F : Nat → (ins.foldr (fun p t => Ty.pair p.2 t) .unit).den → Option ((outs ++ (ins.filter (·.1)).map (·.2)).foldr Ty.pair .unit).den} {g : (ins.foldr (fun p t => Ty.pair p.2 t) .unit).den → Option ((outs ++ (ins.filter (·.1)).map (·.2)).foldr Ty.pair .unit).den}
 (hF : ∀ n, FunC P f { ins := ins, outs := outs, f := F n }) (h : ∀ x r, g x = some r → ∃ n, F n x = some r) : FunC P f { ins := ins, outs := outs, f := g } := by
 refine ⟨fun _ Z w xs vs Fs r h1 h2 h3 h4 h5 => ?_, fun _ _ h => (by cases h), (hF 0).en⟩
 obtain ⟨n, hn⟩ := h xs r h5
 exact ((hF n).ok' rfl Z w xs vs Fs r h1 h2 h3 h4 hn).mono fun e w' ⟨v, Z', us, Fr, Fi, he, p⟩ => ⟨v, Z', us, Fr, Fi, he, ⟨p.kp, p.zs, p.zl, p.zi, p.res, p.v, p.io, p.nd, p.nz⟩⟩
theorem law_end {Z : Nat → Prop} {w w' : World} {F : FunE} {vs us : List Value} {v : Value} {Z' : Nat → Prop} {Fr Fi : List Nat} {r : ((F.outs ++ (F.ins.filter (·.1)).map (·.2)).foldr Ty.pair .unit).den} (p : Post Z w [] F vs r v w' Z' us Fr Fi) {τs : List Ty} (ho : F.outs = [.bool]) {b : Bool} (hb : ResL Z' w' F.outs (splitRes F.outs _ r).1 us Fr → ResL Z' w' [.bool] (b, ()) us Fr) :
 v = .bool b ∧ RowKit.Below w.heap.size w w' := by
 refine ⟨?_, p.kp.os, p.kp.tape, p.kp.output, p.kp.size, fun k hk => p.kp.block k hk (by simp)⟩
 obtain ⟨u, us', F1, F2, e1, e2, ⟨cs, e3, e4⟩, e5, e6⟩ := hb p.res
 have e3 : cs = [u] := e3
 subst e3
 obtain ⟨e7, _⟩ := e4
 rw [p.v, e1, e5]
 simpa [tupOf] using e7
end
end Go.Proofs.Ytadhpgecilhgnaa.A

-- YtadhpgecilhgnaaShelf
namespace Go.Proofs
open Go.Shelf
end Go.Proofs

-- YtadhpgecilhgnaaSs
set_option linter.unusedVariables false
set_option linter.unusedSimpArgs false
namespace Go.Proofs.Ytadhpgecilhgnaa.A
open Go Go.Sort
section
variable {P : Program} {w w' : World} {Z : Nat → Prop}

end
end Go.Proofs.Ytadhpgecilhgnaa.A

-- YtadhpgecilhgnaaK
set_option linter.unusedVariables false
set_option maxRecDepth 100000
namespace Go.Proofs.Ytadhpgecilhgnaa.A
open Go
theorem follows : Try.prog.follows .mixedOrders = true := by kernel_rfl
theorem tab_ok : TabOk Try.prog tab := tabOk_of (by kernel_rfl)
theorem slices_Index_string.ok (n : Nat) : FunC Try.prog 64 (slices_Index_string.E n) := funC_of follows tab_ok Try.func64 (T := slices_Index_string.T) (ann := slices_Index_string.ann) (ins := slices_Index_string.ins) (outs := slices_Index_string.outs) (n := n) (fun k => TOk.nil) (by kernel_rfl) (by kernel_rfl)
theorem slices_Contains_string.ok (n : Nat) : FunC Try.prog 30 (slices_Contains_string.E n) := funC_of follows tab_ok Try.func30 (T := slices_Contains_string.T) (ann := slices_Contains_string.ann) (ins := slices_Contains_string.ins) (outs := slices_Contains_string.outs) (n := n) (fun k => TOk.cons (slices_Index_string.ok k) (TOk.nil)) (by kernel_rfl) (by kernel_rfl)
theorem monitor_IsName.ok (n : Nat) : FunC Try.prog 59 (monitor_IsName.E n) := funC_of follows tab_ok Try.func59 (T := monitor_IsName.T) (ann := monitor_IsName.ann) (ins := monitor_IsName.ins) (outs := monitor_IsName.outs) (n := n) (fun k => TOk.nil) (by kernel_rfl) (by kernel_rfl)
theorem monitor_checkModes.ok (n : Nat) : FunC Try.prog 51 (monitor_checkModes.E n) := funC_of follows tab_ok Try.func51 (T := monitor_checkModes.T) (ann := monitor_checkModes.ann) (ins := monitor_checkModes.ins) (outs := monitor_checkModes.outs) (n := n) (fun k => TOk.cons (slices_Contains_string.ok k) (TOk.cons (monitor_IsName.ok k) (TOk.nil))) (by kernel_rfl) (by kernel_rfl)
theorem kit_In.ok (n : Nat) : FunC Try.prog 58 (kit_In.E n) := funC_of follows tab_ok Try.func58 (T := kit_In.T) (ann := kit_In.ann) (ins := kit_In.ins) (outs := kit_In.outs) (n := n) (fun k => TOk.nil) (by kernel_rfl) (by kernel_rfl)
theorem monitor_checkRule.ok (n : Nat) : FunC Try.prog 52 (monitor_checkRule.E n) := funC_of follows tab_ok Try.func52 (T := monitor_checkRule.T) (ann := monitor_checkRule.ann) (ins := monitor_checkRule.ins) (outs := monitor_checkRule.outs) (n := n) (fun k => TOk.cons (slices_Contains_string.ok k) (TOk.cons (kit_In.ok k) (TOk.cons (monitor_IsName.ok k) (TOk.nil)))) (by kernel_rfl) (by kernel_rfl)
theorem monitor_CheckWatch.ok (n : Nat) : FunC Try.prog 19 (monitor_CheckWatch.E n) := funC_of follows tab_ok Try.func19 (T := monitor_CheckWatch.T) (ann := monitor_CheckWatch.ann) (ins := monitor_CheckWatch.ins) (outs := monitor_CheckWatch.outs) (n := n) (fun k => TOk.cons (monitor_checkModes.ok k) (TOk.cons (monitor_checkRule.ok k) (TOk.nil))) (by kernel_rfl) (by kernel_rfl)
theorem monitor_raises.ok (n : Nat) : FunC Try.prog 76 (monitor_raises.E n) := funC_of follows tab_ok Try.func76 (T := monitor_raises.T) (ann := monitor_raises.ann) (ins := monitor_raises.ins) (outs := monitor_raises.outs) (n := n) (fun k => TOk.nil) (by kernel_rfl) (by kernel_rfl)
theorem monitor_sets.ok (n : Nat) : FunC Try.prog 42 (monitor_sets.E n) := funC_of follows tab_ok Try.func42 (T := monitor_sets.T) (ann := monitor_sets.ann) (ins := monitor_sets.ins) (outs := monitor_sets.outs) (n := n) (fun k => TOk.cons (monitor_raises.ok k) (TOk.nil)) (by kernel_rfl) (by kernel_rfl)
theorem monitor_ring.ok (n : Nat) : FunC Try.prog 43 (monitor_ring.E n) := funC_of follows tab_ok Try.func43 (T := monitor_ring.T) (ann := monitor_ring.ann) (ins := monitor_ring.ins) (outs := monitor_ring.outs) (n := n) (fun k => TOk.nil) (by kernel_rfl) (by kernel_rfl)
theorem monitor_Loops.ok (n : Nat) : FunC Try.prog 13 (monitor_Loops.E n) := funC_of follows tab_ok Try.func13 (T := monitor_Loops.T) (ann := monitor_Loops.ann) (ins := monitor_Loops.ins) (outs := monitor_Loops.outs) (n := n) (fun k => TOk.cons (monitor_CheckWatch.ok k) (TOk.cons (monitor_sets.ok k) (TOk.cons (monitor_ring.ok k) (TOk.nil)))) (by kernel_rfl) (by kernel_rfl)
theorem kit_First.ok (n : Nat) : FunC Try.prog 46 (kit_First.E n) := funC_of follows tab_ok Try.func46 (T := kit_First.T) (ann := kit_First.ann) (ins := kit_First.ins) (outs := kit_First.outs) (n := n) (fun k => TOk.nil) (by kernel_rfl) (by kernel_rfl)
theorem monitor_CheckLimits.ok (n : Nat) : FunC Try.prog 77 (monitor_CheckLimits.E n) := funC_of follows tab_ok Try.func77 (T := monitor_CheckLimits.T) (ann := monitor_CheckLimits.ann) (ins := monitor_CheckLimits.ins) (outs := monitor_CheckLimits.outs) (n := n) (fun k => TOk.cons (kit_In.ok k) (TOk.cons (monitor_IsName.ok k) (TOk.nil))) (by kernel_rfl) (by kernel_rfl)
theorem kit_Range.ok (n : Nat) : FunC Try.prog 78 (kit_Range.E n) := funC_of follows tab_ok Try.func78 (T := kit_Range.T) (ann := kit_Range.ann) (ins := kit_Range.ins) (outs := kit_Range.outs) (n := n) (fun k => TOk.cons (kit_In.ok k) (TOk.nil)) (by kernel_rfl) (by kernel_rfl)
theorem monitor_state.ok (n : Nat) : FunC Try.prog 79 (monitor_state.E n) := funC_of follows tab_ok Try.func79 (T := monitor_state.T) (ann := monitor_state.ann) (ins := monitor_state.ins) (outs := monitor_state.outs) (n := n) (fun k => TOk.nil) (by kernel_rfl) (by kernel_rfl)
theorem monitor_StateOf.ok (n : Nat) : FunC Try.prog 44 (monitor_StateOf.E n) := funC_of follows tab_ok Try.func44 (T := monitor_StateOf.T) (ann := monitor_StateOf.ann) (ins := monitor_StateOf.ins) (outs := monitor_StateOf.outs) (n := n) (fun k => TOk.cons (kit_First.ok k) (TOk.cons (monitor_CheckLimits.ok k) (TOk.cons (kit_Range.ok k) (TOk.cons (monitor_state.ok k) (TOk.nil))))) (by kernel_rfl) (by kernel_rfl)
theorem perigeelaw8_awake.ok (n : Nat) : FunC Try.prog 14 (perigeelaw8_awake.E n) := funC_of follows tab_ok Try.func14 (T := perigeelaw8_awake.T) (ann := perigeelaw8_awake.ann) (ins := perigeelaw8_awake.ins) (outs := perigeelaw8_awake.outs) (n := n) (fun k => TOk.cons (monitor_StateOf.ok k) (TOk.nil)) (by kernel_rfl) (by kernel_rfl)
theorem perigeeref8_within.ok (n : Nat) : FunC Try.prog 60 (perigeeref8_within.E n) := funC_of follows tab_ok Try.func60 (T := perigeeref8_within.T) (ann := perigeeref8_within.ann) (ins := perigeeref8_within.ins) (outs := perigeeref8_within.outs) (n := n) (fun k => TOk.nil) (by kernel_rfl) (by kernel_rfl)
theorem perigeeref8_IsName.ok (n : Nat) : FunC Try.prog 53 (perigeeref8_IsName.E n) := funC_of follows tab_ok Try.func53 (T := perigeeref8_IsName.T) (ann := perigeeref8_IsName.ann) (ins := perigeeref8_IsName.ins) (outs := perigeeref8_IsName.outs) (n := n) (fun k => TOk.cons (perigeeref8_within.ok k) (TOk.nil)) (by kernel_rfl) (by kernel_rfl)
theorem perigeeref8_has.ok (n : Nat) : FunC Try.prog 55 (perigeeref8_has.E n) := funC_of follows tab_ok Try.func55 (T := perigeeref8_has.T) (ann := perigeeref8_has.ann) (ins := perigeeref8_has.ins) (outs := perigeeref8_has.outs) (n := n) (fun k => TOk.nil) (by kernel_rfl) (by kernel_rfl)
theorem perigeeref8_checkChange.ok (n : Nat) : FunC Try.prog 54 (perigeeref8_checkChange.E n) := funC_of follows tab_ok Try.func54 (T := perigeeref8_checkChange.T) (ann := perigeeref8_checkChange.ann) (ins := perigeeref8_checkChange.ins) (outs := perigeeref8_checkChange.outs) (n := n) (fun k => TOk.cons (perigeeref8_IsName.ok k) (TOk.cons (perigeeref8_has.ok k) (TOk.nil))) (by kernel_rfl) (by kernel_rfl)
theorem perigeeref8_checkRule.ok (n : Nat) : FunC Try.prog 56 (perigeeref8_checkRule.E n) := funC_of follows tab_ok Try.func56 (T := perigeeref8_checkRule.T) (ann := perigeeref8_checkRule.ann) (ins := perigeeref8_checkRule.ins) (outs := perigeeref8_checkRule.outs) (n := n) (fun k => TOk.cons (perigeeref8_IsName.ok k) (TOk.cons (perigeeref8_has.ok k) (TOk.cons (perigeeref8_within.ok k) (TOk.nil)))) (by kernel_rfl) (by kernel_rfl)
theorem perigeeref8_ruleOf.ok (n : Nat) : FunC Try.prog 57 (perigeeref8_ruleOf.E n) := funC_of follows tab_ok Try.func57 (T := perigeeref8_ruleOf.T) (ann := perigeeref8_ruleOf.ann) (ins := perigeeref8_ruleOf.ins) (outs := perigeeref8_ruleOf.outs) (n := n) (fun k => TOk.nil) (by kernel_rfl) (by kernel_rfl)
theorem perigeeref8_CheckWatch.ok (n : Nat) : FunC Try.prog 20 (perigeeref8_CheckWatch.E n) := funC_of follows tab_ok Try.func20 (T := perigeeref8_CheckWatch.T) (ann := perigeeref8_CheckWatch.ann) (ins := perigeeref8_CheckWatch.ins) (outs := perigeeref8_CheckWatch.outs) (n := n) (fun k => TOk.cons (perigeeref8_IsName.ok k) (TOk.cons (perigeeref8_checkChange.ok k) (TOk.cons (perigeeref8_has.ok k) (TOk.cons (perigeeref8_checkRule.ok k) (TOk.cons (perigeeref8_ruleOf.ok k) (TOk.nil)))))) (by kernel_rfl) (by kernel_rfl)
theorem perigeeref8_setsOff.ok (n : Nat) : FunC Try.prog 83 (perigeeref8_setsOff.E n) := funC_of follows tab_ok Try.func83 (T := perigeeref8_setsOff.T) (ann := perigeeref8_setsOff.ann) (ins := perigeeref8_setsOff.ins) (outs := perigeeref8_setsOff.outs) (n := n) (fun k => TOk.nil) (by kernel_rfl) (by kernel_rfl)
theorem perigeeref8_away.ok (n : Nat) : FunC Try.prog 82 (perigeeref8_away.E n) := funC_of follows tab_ok Try.func82 (T := perigeeref8_away.T) (ann := perigeeref8_away.ann) (ins := perigeeref8_away.ins) (outs := perigeeref8_away.outs) (n := n) (fun k => TOk.cons (perigeeref8_setsOff.ok k) (TOk.nil)) (by kernel_rfl) (by kernel_rfl)
theorem perigeeref8_ringOf.ok (n : Nat) : FunC Try.prog 61 (perigeeref8_ringOf.E n) := funC_of follows tab_ok Try.func61 (T := perigeeref8_ringOf.T) (ann := perigeeref8_ringOf.ann) (ins := perigeeref8_ringOf.ins) (outs := perigeeref8_ringOf.outs) (n := n) (fun k => TOk.cons (perigeeref8_away.ok k) (TOk.cons (perigeeref8_setsOff.ok k) (TOk.nil))) (by kernel_rfl) (by kernel_rfl)
theorem perigeeref8_Loops.ok (n : Nat) : FunC Try.prog 24 (perigeeref8_Loops.E n) := funC_of follows tab_ok Try.func24 (T := perigeeref8_Loops.T) (ann := perigeeref8_Loops.ann) (ins := perigeeref8_Loops.ins) (outs := perigeeref8_Loops.outs) (n := n) (fun k => TOk.cons (perigeeref8_CheckWatch.ok k) (TOk.cons (perigeeref8_ringOf.ok k) (TOk.nil))) (by kernel_rfl) (by kernel_rfl)
theorem monitor_Never.ok (n : Nat) : FunC Try.prog 25 (monitor_Never.E n) := funC_of follows tab_ok Try.func25 (T := monitor_Never.T) (ann := monitor_Never.ann) (ins := monitor_Never.ins) (outs := monitor_Never.outs) (n := n) (fun k => TOk.cons (monitor_CheckWatch.ok k) (TOk.cons (monitor_IsName.ok k) (TOk.nil))) (by kernel_rfl) (by kernel_rfl)
theorem perigeeref8_Never.ok (n : Nat) : FunC Try.prog 26 (perigeeref8_Never.E n) := funC_of follows tab_ok Try.func26 (T := perigeeref8_Never.T) (ann := perigeeref8_Never.ann) (ins := perigeeref8_Never.ins) (outs := perigeeref8_Never.outs) (n := n) (fun k => TOk.cons (perigeeref8_CheckWatch.ok k) (TOk.cons (perigeeref8_IsName.ok k) (TOk.cons (perigeeref8_has.ok k) (TOk.nil)))) (by kernel_rfl) (by kernel_rfl)
theorem slices_Equal_string.ok (n : Nat) : FunC Try.prog 27 (slices_Equal_string.E n) := funC_of follows tab_ok Try.func27 (T := slices_Equal_string.T) (ann := slices_Equal_string.ann) (ins := slices_Equal_string.ins) (outs := slices_Equal_string.outs) (n := n) (fun k => TOk.nil) (by kernel_rfl) (by kernel_rfl)
theorem perigeelaw8_WatchesLoopsMatchSpec.ok (n : Nat) : FunC Try.prog 6 (perigeelaw8_WatchesLoopsMatchSpec.E n) := funC_of follows tab_ok Try.func6 (T := perigeelaw8_WatchesLoopsMatchSpec.T) (ann := perigeelaw8_WatchesLoopsMatchSpec.ann) (ins := perigeelaw8_WatchesLoopsMatchSpec.ins) (outs := perigeelaw8_WatchesLoopsMatchSpec.outs) (n := n) (fun k => TOk.cons (monitor_Loops.ok k) (TOk.cons (perigeelaw8_awake.ok k) (TOk.cons (perigeeref8_Loops.ok k) (TOk.cons (monitor_Never.ok k) (TOk.cons (perigeeref8_Never.ok k) (TOk.cons (slices_Equal_string.ok k) (TOk.nil))))))) (by kernel_rfl) (by kernel_rfl)
end Go.Proofs.Ytadhpgecilhgnaa.A

-- YtadhpgecilhgnaaPk
set_option linter.unusedVariables false
set_option linter.unusedSimpArgs false
namespace Go.Proofs.Ytadhpgecilhgnaa.Pure
open Go Go.Proofs.Ytadhpgecilhgnaa.A

def Ev {α : Type} (g : Nat → Option α) (r : α) : Prop := ∃ k, ∀ n, k ≤ n → g n = some r
theorem Ev.now {α : Type} (r : α) : Ev (fun _ => some r) r := ⟨0, fun _ _ => rfl⟩
theorem Ev.rounds {α : Type} {g : Nat → Option α} {r : α} (h : Ev g r) : ∃ k, g k = some r := let ⟨K, h⟩ := h; ⟨K, h K (Nat.le_refl _)⟩
theorem Ev.bind {α β : Type} {g : Nat → Option α} {f : Nat → α → Option β} {a : α} {r : β} (h : Ev g a) (k : Ev (fun n => f n a) r) : Ev (fun n => (g n).bind (f n)) r := by
 obtain ⟨K, h⟩ := h
 obtain ⟨K', k⟩ := k
 refine ⟨max K K', fun n hn => ?_⟩
 simp only [h n (by omega), Option.bind_some]
 exact k n (by omega)
theorem Ev.step {α : Type} {g f : Nat → Option α} {r : α} (h : ∀ k, g (k + 1) = f k) (k : Ev f r) : Ev g r := by
 obtain ⟨K, k⟩ := k
 refine ⟨K + 1, fun n hn => ?_⟩
 obtain ⟨m, rfl⟩ : ∃ m, n = m + 1 := ⟨n - 1, by omega⟩
 rw [h]
 exact k m (by omega)
theorem Ev.eq {α : Type} {g f : Nat → Option α} {r : α} (h : ∀ k, g k = f k) (k : Ev f r) : Ev g r := by
 obtain ⟨K, k⟩ := k
 exact ⟨K, fun n hn => (h n).trans (k n hn)⟩
theorem less_total : ∀ a b : List UInt8, (Op.bytesLess a b || a == b) = !Op.bytesLess b a := by
 intro a
 induction a with
 | nil => intro b; cases b <;> simp [Op.bytesLess]
 | cons x a ih =>
  intro b
  cases b with
  | nil => simp [Op.bytesLess]
  | cons y b =>
   have := ih b
   have e1 : Op.bytesLess (x :: a) (y :: b) = (decide (x < y) || (x == y && Op.bytesLess a b)) := by rw [Op.bytesLess]
   have e2 : Op.bytesLess (y :: b) (x :: a) = (decide (y < x) || (y == x && Op.bytesLess b a)) := by rw [Op.bytesLess]
   rw [e1, e2]
   rcases Nat.lt_trichotomy x.toNat y.toNat with h | h | h
   ·have h1 : x < y := UInt8.lt_iff_toNat_lt.2 h
    have h2 : ¬ y < x := fun h' => by have := UInt8.lt_iff_toNat_lt.1 h'; omega
    have h3 : ¬ y = x := fun h' => by subst h'; omega
    simp [h1, h2, h3]
   ·have h3 : x = y := UInt8.toNat_inj.1 h
    subst h3
    have h2 : ¬ x < x := fun h' => by have := UInt8.lt_iff_toNat_lt.1 h'; omega
    simpa [h2] using this
   ·have h1 : y < x := UInt8.lt_iff_toNat_lt.2 h
    have h2 : ¬ x < y := fun h' => by have := UInt8.lt_iff_toNat_lt.1 h'; omega
    have h3 : ¬ x = y := fun h' => by subst h'; omega
    simp [h1, h2, h3]

theorem w64 {x : Int} (h : -9223372036854775808 ≤ x) (h' : x ≤ 9223372036854775807) : IntKind.wrap .i64 x = x := by
 have e1 : (2 : Int) ^ 64 = 18446744073709551616 := rfl
 have e2 : (2 : Int) ^ (64 - 1) = 9223372036854775808 := rfl
 simp only [IntKind.wrap, IntKind.bits, IntKind.signed, e1, e2, Bool.true_and, decide_eq_true_eq]
 by_cases hh : x % 18446744073709551616 ≥ 9223372036854775808
 ·rw [if_pos hh]; omega
 ·rw [if_neg hh]; omega
theorem Ev.yes {α : Type} {c : Prop} {hd : Decidable c} {g g' : Nat → Option α} {r : α} (h : c) (e : Ev g r) : Ev (fun k => if c then g k else g' k) r := by
 simp only [if_pos h]; exact e
theorem Ev.no {α : Type} {c : Prop} {hd : Decidable c} {g g' : Nat → Option α} {r : α} (h : ¬ c) (e : Ev g' r) : Ev (fun k => if c then g k else g' k) r := by
 simp only [if_neg h]; exact e
theorem Ev.unique {α : Type} {g : Nat → Option α} {r s : α} (h : Ev g r) (h' : Ev g s) : r = s := by
 obtain ⟨K, h⟩ := h
 obtain ⟨K', h'⟩ := h'
 have h1 := h (max K K') (by omega)
 have h2 := h' (max K K') (by omega)
 rw [h1] at h2
 injection h2
theorem Ev.some {α : Type} {o : Option α} {r : α} (h : o = some r) : Ev (fun _ => o) r := by subst h; exact Ev.now _

theorem getD_nat {α : Type} (z : α) (l : List α) (i : Nat) (h : i < l.length) : l.getD i z = l[i] := by
 simp [List.getD_eq_getElem?_getD, List.getElem?_eq_getElem h]
theorem getD_mem {α : Type} {z : α} {l : List α} {i : Nat} (h : i < l.length) : l.getD i z ∈ l := by
 rw [getD_nat z l i h]; exact List.getElem_mem h

def Twin {α β : Type} (g : Nat → Option α) (g' : Nat → Option β) (R : α → β → Prop) : Prop := ∃ a b, Ev g a ∧ Ev g' b ∧ R a b
section
variable {α β γ δ : Type} {R : α → β → Prop}
theorem Twin.of {g : Nat → Option α} {g' : Nat → Option β} {a : α} {b : β} (h : Ev g a) (h' : Ev g' b) (r : R a b) : Twin g g' R := ⟨a, b, h, h', r⟩
theorem Twin.now {a : α} {b : β} (r : R a b) : Twin (fun _ => some a) (fun _ => some b) R := ⟨a, b, Ev.now _, Ev.now _, r⟩
theorem Twin.mono {g : Nat → Option α} {g' : Nat → Option β} {S : α → β → Prop} (h : Twin g g' S) (k : ∀ a b, S a b → R a b) : Twin g g' R := by
 obtain ⟨a, b, h1, h2, h3⟩ := h
 exact ⟨a, b, h1, h2, k a b h3⟩
theorem Twin.bind {g : Nat → Option γ} {g' : Nat → Option δ} {S : γ → δ → Prop} {f : Nat → γ → Option α} {f' : Nat → δ → Option β} (t : Twin g g' S) (k : ∀ a b, S a b → Twin (fun n => f n a) (fun n => f' n b) R) :
 Twin (fun n => (g n).bind (f n)) (fun n => (g' n).bind (f' n)) R := by
 obtain ⟨a, b, h1, h2, h3⟩ := t
 obtain ⟨a', b', h1', h2', h3'⟩ := k a b h3
 exact ⟨a', b', Ev.bind h1 h1', Ev.bind h2 h2', h3'⟩
theorem Twin.right {g : Nat → Option α} {g' : Nat → Option β} (t : Twin g g' R) : ∃ b, Ev g' b := by
 obtain ⟨a, b, h1, h2, h3⟩ := t
 exact ⟨b, h2⟩
theorem Ev.split {c : Prop} {hd : Decidable c} {g f : Nat → Option α} {r : α} (y : c → Ev g r) (n : ¬ c → Ev f r) : Ev (fun k => if c then g k else f k) r := by
 by_cases h : c
 ·simp only [if_pos h]; exact y h
 ·simp only [if_neg h]; exact n h
theorem Ev.is {v r : α} (h : v = r) : Ev (fun _ => Option.some v) r := by subst h; exact Ev.now _
end
end Go.Proofs.Ytadhpgecilhgnaa.Pure
