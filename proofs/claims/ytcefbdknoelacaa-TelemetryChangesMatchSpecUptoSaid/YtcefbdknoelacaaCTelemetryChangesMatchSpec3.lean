/- Changes and Changed are as specified, with all errors, where what comes in is of bulk 1048576 at most (the reference makes eight truths of each byte, which no machine has room for at the greatest lengths). -/
import Derived.Below
import Derived.ChangeArms
import Derived.ChangeSlices
import Derived.DataElems
import Derived.DataReads
import Derived.KernelRfl
import Derived.Laws.Strings
import Derived.Shelf.Small.Strs
import Derived.SizedLaws
import Derived.Test.YtcefbdknoelacaaChecked
import Derived.Test.YtcefbdknoelacaaProg
import Derived.WideShapes
import Derived.Test.YtcefbdknoelacaaCTelemetryChangesMatchSpec2
-- YtcefbdknoelacaaFn5
set_option linter.unusedVariables false
set_option linter.unusedSimpArgs false
namespace Go.Proofs.Ytcefbdknoelacaa.A
open Go
structure FunC (P : Program) (f : FuncId) (F : FunE) : Prop where
 ok : FunOk P f F
 en : ∃ fn, P.funcs[f]? = some fn ∧ (fn.name == "runtime.NumGoroutine") = false ∧ fn.body.isNone = false
def TOk (P : Program) (T : Nat → Option FunE) : Prop := ∀ f F, T f = some F → FunC P f F
section
variable {P : Program} {B : Base} {m m' m0 : Md} {H H' : Hp} {w w' : World} {o : Oper} {a : Act} {E : Env} {tab : Nat → Option TI} {T : Nat → Option FunE} {N : Nat}

theorem enter_exec {c : Call} (ho : o.op = .call c) {x : Operand} (hc : c.callee = .value x) {f : FuncId} (hx : a.eval x = .func (.func f) #[] #[]) (hen : ∃ fn, P.funcs[f]? = some fn ∧ (fn.name == "runtime.NumGoroutine") = false ∧ fn.body.isNone = false) :
 (execOp a.eval o).run P w = .ok (.enter f (c.args.map a.eval)) w := by
 obtain ⟨fn, h1, h2, h3⟩ := hen
 simp only [execOp, ho, resolve, hc, hx]
 have h2 : ¬ fn.name = "runtime.NumGoroutine" := by simpa using h2
 have h3 : ¬ fn.body = none := fun hh => by rw [hh] at h3; cases h3
 simp [Deferred.ofValue, invoke, callFunc, h1, h2, h3]
theorem all2_args (s : St B m E H a w) : ∀ {xs : List Operand}, (∀ x ∈ xs, opndOkB x = true) → All2 (AVRep m w H) (xs.map (evalO E)) (xs.map a.eval)
 | [], _ => trivial
 | x :: xs, h => ⟨evalO_ok s (h x (by simp)), all2_args s fun y hy => h y (by simp [hy])⟩
theorem wCall_ok (hT : TabOk P tab) (hC : TOk P T) (s : St B m E H a w) {c : Call} (ho : o.op = .call c) (hx : ∀ x ∈ c.operands, opndOkB x = true) :
 WayOk P B m H w o a (wCall tab T o.dst c (c.args.toList.map (evalO E)) (match c.callee with | .value f => some (evalO E f) | _ => none)) := by
 have hargs := all2_args s (xs := c.args.toList) fun x h => hx x (by simp [Call.operands]; exact .inr (by simpa using h))
 have hmap : (c.args.map a.eval).toList = c.args.toList.map a.eval := by simp
 have hmap' : c.args.map a.eval = (c.args.toList.map a.eval).toArray := by rw [← hmap]
 unfold wCall
 cases hc : c.callee with
 | invoke r n => exact WayOk.fail
 | value x =>
  simp only
  split
  ·rename_i f u he
   split
   ·rename_i F hF
    have hfc := hC f F (by simpa using hF)
    simp only [Option.some.injEq] at he
    have hev := evalO_ok s (hx x (by simp [Call.operands, hc]))
    rw [he] at hev
    have hfv : a.eval x = .func (.func f) #[] #[] := by
     have := hev.one
     obtain ⟨h1, _⟩ := (this : [a.eval x] = [.func (.func f) #[] #[]] ∧ _)
     simpa using h1
    exact wCallF_ok hfc.ok s.h hargs (by rw [enter_exec ho hc hfv hfc.en, hmap'])
   ·exact WayOk.fail
  ·exact WayOk.fail
 | builtin b =>
  cases b <;> simp only <;> try exact WayOk.fail
  case len =>
   split
   ·rename_i x hxs hsz
    have hsz := Nat.eq_of_beq_eq_true hsz
    match hc1 : c.args.toList, hxs, hargs with
    | [y], hxs, hargs =>
     simp only [List.map_cons, List.map_nil, List.cons.injEq, and_true] at hxs
     subst hxs
     rw [hc1] at hmap'
     have h1 := hargs.1
     refine wLen_ok hT s.h h1 fun n hn => exec_call_builtin ho hc ?_
     have hts : c.argTypes = #[c.argTypes.getD 0 0] := by
      apply Array.ext
      ·simpa using hsz
      ·intro i h1 h2
       have : i = 0 := by omega
       subst this
       simp [Array.getD, h1]
     generalize c.argTypes.getD 0 0 = t at hts hn
     rw [hts]
     simp only [builtin, hmap', List.map_cons, List.map_nil]
     rw [show ([a.eval y] : List Value).toArray = #[a.eval y] from rfl]
     simp only [Sem.run_bind, hn, Result.andThen_ok, Sem.run_pure]
   ·exact WayOk.fail
  case append =>
   split
   ·rename_i x y hxs
    match hc1 : c.args.toList, hxs, hargs with
    | [x1, y1], hxs, hargs =>
     simp only [List.map_cons, List.map_nil, List.cons.injEq, and_true] at hxs
     obtain ⟨rfl, rfl⟩ := hxs
     rw [hc1] at hmap'
     refine wAppend_ok hT s.h hargs.1 hargs.2.1 fun v w' hv => ?_
     simp only [execOp, ho, resolve, hc]
     simp only [Sem.run_bind, Sem.run_pure, Result.andThen_ok, invoke, builtin, hmap', List.map_cons, List.map_nil]
     rw [show ([a.eval x1, a.eval y1] : List Value).toArray = #[a.eval x1, a.eval y1] from rfl, hv]
     rfl
   ·exact WayOk.fail
  case max =>
   refine wMinMax_ok s.h hargs (fun x y => by unfold mxI; split <;> simp) max2_run fun x rest u hl hu => exec_call_builtin ho hc ?_
   simp only [builtin, Builtin.max_, hmap, hl, Sem.run_bind, hu, Result.andThen_ok, Sem.run_pure]
  case min =>
   refine wMinMax_ok s.h hargs (fun x y => by unfold mnI; split <;> simp) min2_run fun x rest u hl hu => exec_call_builtin ho hc ?_
   simp only [builtin, Builtin.min_, hmap, hl, Sem.run_bind, hu, Result.andThen_ok, Sem.run_pure]

theorem wayD_ok (hT : TabOk P tab) (B : Base) (m : Md) (H : Hp) (w : World) (a : Act) (E : Env) (o : Oper) (t : DT (AV × List (Nat × Cell))) (hx : o.op.operands.toList.all opndOkB = true) (s : St B m E H a w) (h : wayD tab E H o = some t) : WayDOk P B m H w o a t := by
 have hx : ∀ x ∈ o.op.operands, opndOkB x = true := fun x h => List.all_eq_true.1 hx x (by simpa using h)
 unfold wayD at h
 split at h
 ·cases h
 ·split at h
  ·rename_i ho
   exact nilWay_ok hT s.h (.inl ⟨rfl, ho⟩) (evalO_ok s (hx _ (by rw [ho]; simp [Op.operands]))) h
  ·rename_i ho
   exact nilWay_ok hT s.h (.inr ⟨rfl, ho⟩) (evalO_ok s (hx _ (by rw [ho]; simp [Op.operands]))) h
  ·cases h
theorem way_ok (hT : TabOk P tab) (hC : TOk P T) : WaysOk P tab T := by
 refine ⟨fun B m H w a E o hx s => ?_, wayD_ok hT⟩
 have hx : ∀ x ∈ o.op.operands, opndOkB x = true := fun x h => List.all_eq_true.1 hx x (by simpa using h)
 unfold way
 cases ho : o.op <;> (try simp only [ho, Op.operands] at hx) <;> (try simp only) <;> try exact WayOk.fail
 case move x => exact WayOk.val s.h (by simp only [execOp, ho, Sem.run_pure]) (evalO_ok s (hx x (by simp)))
 case assign x => exact WayOk.val s.h (by simp only [execOp, ho, Sem.run_pure]) (evalO_ok s (hx x (by simp)))
 case pick c x y => exact wPick_ok s.h ho (evalO_ok s (hx c (by simp))) (evalO_ok s (hx x (by simp))) (evalO_ok s (hx y (by simp)))
 case nilCheck x => exact wNilCheck_ok s.h ho (evalO_ok s (hx x (by simp)))
 case alloc t =>
  split
  ·rename_i i hi
   obtain ⟨inf, z, k1, k2, k3, k4, k5, k6⟩ := (hT t i hi).info
   refine wBox_ok (t := t) (v := .agg z.cells) s.h ⟨z.cells.toList, by simp [IsV], k6.mono fun _ _ h => h.l⟩ fun cs ⟨g, ls, h1, h2⟩ h3 => ?_
   cases h1
   have : z.cells = cs.toArray := by simpa [IsV] using h2
   rw [← this]
   exact alloc_exec ho k1 k4
  ·exact WayOk.fail
 case box t x =>
  refine wBox_ok (t := t) s.h (evalO_ok s (hx x (by simp))) fun cs ⟨g, ls, h1, h2⟩ h3 => box_exec ho (isV_cells h2 h3)
 case build t ps => exact wBuild_ok hT s.h ho (all2_parts s fun p hp => hx p.2 (by simp; exact ⟨p.1, by simpa using hp⟩))
 case buildSlice t n ps => exact wBuildSlice_ok hT s.h ho (all2_parts s fun p hp => hx p.2 (by simp; exact ⟨p.1, by simpa using hp⟩))
 case load t x => exact wLoad_ok hT s.h ho (evalO_ok s (hx x (by simp)))
 case store t x y => exact wStore_ok hT s.h ho (evalO_ok s (hx x (by simp))) (evalO_ok s (hx y (by simp)))
 case binOp op t x y yt => exact wBin_ok hT s.h ho (evalO_ok s (hx x (by simp))) (evalO_ok s (hx y (by simp)))
 case unOp op t x => exact wUn_ok s.h ho (evalO_ok s (hx x (by simp)))
 case convert t d x => exact wConvert_ok hT s.h ho (evalO_ok s (hx x (by simp)))
 case makeSlice t x y => exact wMakeSlice_ok hT s.h ho (evalO_ok s (hx x (by simp))) (evalO_ok s (hx y (by simp)))
 case slice t x lo hi mx =>
  cases mx with
  | some _ => exact WayOk.fail
  | none => exact wSlice_ok hT s.h ho (evalO_ok s (hx x (by simp))) (optRep_map s fun y hy => hx y (by simp [hy])) (optRep_map s fun y hy => hx y (by simp [hy]))
 case fieldAddr t x f => exact wFieldAddr_ok hT s.h ho (evalO_ok s (hx x (by simp)))
 case field t x f => exact wField_ok hT s.h ho (evalO_ok s (hx x (by simp)))
 case indexAddr t x i => exact wIndexAddr_ok hT s.h ho (evalO_ok s (hx x (by simp))) (evalO_ok s (hx i (by simp)))
 case index t x i => exact wIndex_ok hT s.h ho (evalO_ok s (hx x (by simp))) (evalO_ok s (hx i (by simp)))
 case extract x n => exact wExtract_ok s.h ho (evalO_ok s (hx x (by simp)))
 case call c => exact wCall_ok hT hC s ho hx
 case makeMap t r =>
  cases r with
  | some _ => exact WayOk.fail
  | none => exact wMakeMap_ok hT s.h ho
 case insert t x k y => exact wMapUpdate_ok hT s.h (.inr ho) (evalO_ok s (hx x (by simp))) (evalO_ok s (hx k (by simp))) (evalO_ok s (hx y (by simp)))
 case mapUpdate t x k y => exact wMapUpdate_ok hT s.h (.inl ho) (evalO_ok s (hx x (by simp))) (evalO_ok s (hx k (by simp))) (evalO_ok s (hx y (by simp)))
 case lookup t x k ok => exact wLookup_ok hT s.h ho (evalO_ok s (hx x (by simp))) (evalO_ok s (hx k (by simp)))
end
end Go.Proofs.Ytcefbdknoelacaa.A

-- YtcefbdknoelacaaOpn
set_option linter.unusedVariables false
set_option linter.unusedSimpArgs false
namespace Go.Proofs.Ytcefbdknoelacaa.A
open Go

def Ty.low : Ty → Nat
 | .bool => 1
 | .int k => k.bits / 8
 | .str => 16
 | .sl _ => 24
 | .pair a b => a.low + b.low
 | _ => 0
def okT : (τ : Ty) → τ.den → Prop
 | .int k, n => k.min ≤ n ∧ n ≤ k.max
 | .str, s => s.length ≤ 140737488351232
 | .sl e, xs => xs.length ≤ 140737488351232 ∧ xs.length * e.low ≤ 140737488351232 ∧ ∀ x ∈ xs, okT e x
 | .pair a b, x => okT a x.1 ∧ okT b x.2
 | _, _ => True
def fitB (P : Program) : Nat → Ty → Nat ⊕ (List Go.Field × Nat) → Bool
 | 0, _, _ => false
 | n + 1, τ, .inl t => (match P.underlying t, τ with
  | some .bool, .bool => true
  | some (.int k'), .int k => decide (k' = k)
  | some .string, .str => true
  | some (.slice et), .sl e => fitB P n e (.inl et) && Nat.beq (P.cellsOf et) e.cells && Nat.ble 1 e.cells && Nat.ble e.low (P.bytesOf et) && Nat.ble 1 (P.bytesOf et)
  | some (.struct fs), τ => Nat.beq (P.cellsOf t) τ.cells && fitB P n τ (.inr (fs.toList, 0))
  | _, _ => false)
 | n + 1, τ, .inr ([f], off) => Nat.beq f.offset off && fitB P n τ (.inl f.type) && Nat.beq (P.cellsOf f.type) τ.cells
 | n + 1, .pair a b, .inr (f :: g :: fs, off) => Nat.beq f.offset off && fitB P n a (.inl f.type) && Nat.beq (P.cellsOf f.type) a.cells && fitB P n b (.inr (g :: fs, off + a.cells))
 | _, _, _ => false

section
variable {P : Program} {w : World} {Z : Nat → Prop}
theorem list_of {α : Type} (p : Nat → α → Prop) : ∀ n : Nat, (∀ i, i < n → ∃ y, p i y) → ∃ l : List α, l.length = n ∧ ∀ i y, l[i]? = some y → p i y := by
 intro n
 induction n with
 | zero => intro _; exact ⟨[], rfl, fun i y h => by simp at h⟩
 | succ n ih =>
  intro h
  obtain ⟨l, hl, hp⟩ := ih (fun i hi => h i (by omega))
  obtain ⟨y, hy⟩ := h n (by omega)
  refine ⟨l ++ [y], by simp [hl], fun i z hz => ?_⟩
  by_cases hi : i < l.length
  ·exact hp i z (by rwa [List.getElem?_append_left hi] at hz)
  ·rw [List.getElem?_append_right (by omega)] at hz
   have hi2 : i - l.length < 1 := by
    rcases Nat.lt_or_ge (i - l.length) 1 with h | h
    ·exact h
    ·rw [List.getElem?_eq_none (by simpa using h)] at hz
     cases hz
   have e : i = n := by omega
   subst e
   rw [hl] at hz
   simp at hz
   subst hz
   exact hy
theorem weightsAll_mem {H : Type} {P : Program} {e : TypeId} {d : DataW H} : ∀ {l : List (DataW H)}, d ∈ l → ∀ n ∈ d.weights P e, n ∈ DataW.weightsAll P e l := by
 intro l
 induction l with
 | nil => intro h; cases h
 | cons a l ih =>
  intro h n hn
  rw [DataW.weightsAll, List.mem_append]
  rcases List.mem_cons.1 h with rfl | h
  ·exact .inl hn
  ·exact .inr (ih h n hn)
theorem int_wf {k : IntKind} {n : Int} (h : (Lit.int k n).wf = true) : k.min ≤ n ∧ n ≤ k.max := by
 simpa [Lit.wf] using h
theorem repL_of {e : Ty} {b o : Nat} : ∀ (l : List e.den) (k : Nat), (∀ (i : Nat) (y : e.den), l[i]? = some y → ∃ c, Rep Z w e y c [] ∧ ∀ (j : Nat) (u : Value), c[j]? = some u → w.cell? ⟨b, o + ((k + i) * e.cells + j), none⟩ = some u) →
 ∃ c, RepL (fun x c F => Rep Z w e x c F) l c [] ∧ ∀ (j : Nat) (u : Value), c[j]? = some u → w.cell? ⟨b, o + (k * e.cells + j), none⟩ = some u
 | [], k, _ => ⟨[], ⟨rfl, rfl⟩, by simp⟩
 | y :: l, k, h => by
  obtain ⟨c, h1, h2⟩ := h 0 y rfl
  obtain ⟨cs, g1, g2⟩ := repL_of l (k + 1) fun i z hz => by
   have := h (i + 1) z (by simpa using hz)
   rwa [show k + (i + 1) = k + 1 + i by omega] at this
  refine ⟨c ++ cs, ⟨c, cs, [], [], rfl, rfl, h1, g1⟩, fun j u hu => ?_⟩
  have hl := h1.len
  rw [List.getElem?_append] at hu
  split at hu
  ·exact h2 j u hu
  ·rename_i hj
   have := g2 _ u hu
   rwa [show o + ((k + 1) * e.cells + (j - c.length)) = o + (k * e.cells + j) by rw [Nat.succ_mul]; omega] at this

theorem fit_ok (hZ : ∀ b, b < w.heap.size → Z b) {H : Type} {enc : TypeId × Value → H} : ∀ (n : Nat) (τ : Ty) (q : Nat ⊕ (List Go.Field × Nat)), fitB P n τ q = true → match q with
 | .inl t => ∀ {fuel : Nat} {cs : List Value} {x : DataW H × List MemPlace}, DataW.trod enc P w 0 (fun _ => true) true fuel t cs = some x → (∀ n ∈ x.1.weights P t, n ≤ reachBytes) → ∃ y, Rep Z w τ y cs [] ∧ okT τ y
 | .inr (fs, off) => ∀ {fuel : Nat} {cs : List Value} {xs : List (DataW H × List MemPlace)}, xs.length = fs.length → cs.length = off + τ.cells →
  (∀ (i : Nat) (f : Go.Field), fs[i]? = some f → DataW.trod enc P w 0 (fun _ => true) true fuel f.type ((cs.drop f.offset).take (P.cellsOf f.type)) = xs[i]?) →
  (∀ m ∈ DataW.weightsEach P (fs.map (·.type)) (xs.map (·.1)), m ≤ reachBytes) → ∃ y, Rep Z w τ y (cs.drop off) [] ∧ okT τ y := by
 intro n
 induction n with
 | zero => intro τ q h; cases h
 | succ n ih =>
  intro τ q h
  cases q with
  | inl t =>
   intro fuel cs x hx hw
   simp only [fitB] at h
   split at h
   ·rename_i hu
    obtain ⟨b, rfl, _⟩ := DataW.trod_bool hu hx
    exact ⟨b, ⟨rfl, rfl⟩, trivial⟩
   ·rename_i k' k hu
    have hk : k' = k := by simpa using h
    subst hk
    obtain ⟨m, rfl, _, hm⟩ := DataW.trod_int hu hx
    exact ⟨m, ⟨rfl, rfl, int_wf hm⟩, int_wf hm⟩
   ·rename_i hu
    obtain ⟨s, rfl, rfl, hs⟩ := DataW.trod_string hu hx
    have := hw s.data.toList.length (by simp [DataW.weights])
    have hl : s.data.toList.length ≤ 140737488351232 := by simpa [reachBytes] using this
    exact ⟨s.data.toList, ⟨rfl, rfl, by unfold big; omega⟩, hl⟩
   ·rename_i et e hu
    simp only [Bool.and_eq_true] at h
    obtain ⟨⟨⟨⟨h1, h2⟩, h3⟩, h4⟩, h5⟩ := h
    have h2 := Nat.eq_of_beq_eq_true h2
    have h3 := Nat.le_of_ble_eq_true h3
    have h4 := Nat.le_of_ble_eq_true h4
    have h5 := Nat.le_of_ble_eq_true h5
    rcases DataW.trod_slice hu hx with ⟨rfl, rfl⟩ | ⟨a, len, cap, elems, rest, m, _, rfl, rfl, hb, hl, hm, hlen, hel, hsp, _⟩
    ·exact ⟨[], ⟨rfl, by simp, none, 0, rfl, by simp, .inl rfl⟩, by simp, by simp, by simp⟩
    ·have each : ∀ i, i < len → ∃ y, (∃ c, Rep Z w e y c [] ∧ ∀ (j : Nat) (u : Value), c[j]? = some u → w.cell? (a.add (i * e.cells + j)) = some u) ∧ okT e y := by
      intro i hi
      have h1' := hel i hi
      have hi2 : i < elems.length := by omega
      rw [List.getElem?_eq_getElem hi2, Option.bind_eq_some_iff] at h1'
      obtain ⟨c, hcs, hc2⟩ := h1'
      obtain ⟨_, hcl, hcc⟩ := World.cells?_some hcs
      obtain ⟨y, hy, ho⟩ := ih e (.inl et) h1 hc2 (fun m hm => hw m (by
       rw [DataW.weights]
       simp only [hu, List.mem_cons, List.mem_append]
       exact .inr (.inl (weightsAll_mem (List.mem_map_of_mem (f := Prod.fst) (List.getElem_mem hi2)) m hm))))
      refine ⟨y, ⟨c, hy, fun j u hu' => ?_⟩, ho⟩
      have hj : j < P.cellsOf et := by
       rcases Nat.lt_or_ge j c.length with h | h
       ·omega
       ·rw [List.getElem?_eq_none h] at hu'
        cases hu'
      have := hcc j hj
      rw [hu', Go.Addr.add_add, h2] at this
      exact this
     obtain ⟨l, hll, hp⟩ := list_of _ len each
     have hlb : len * P.bytesOf et ≤ 140737488351232 := by
      have h1 : ((elems.map (·.1)).length + (rest.map (·.1)).length) * P.bytesOf et ≤ reachBytes := hw _ (by
       rw [DataW.weights]
       simp only [hu]
       exact List.mem_cons_self)
      have h2 : len * P.bytesOf et ≤ ((elems.map (·.1)).length + (rest.map (·.1)).length) * P.bytesOf et := Nat.mul_le_mul_right _ (by simp; omega)
      simpa [reachBytes] using Nat.le_trans h2 h1
     have hl1 : len ≤ 140737488351232 := Nat.le_trans (by simpa using Nat.mul_le_mul_left len h5) hlb
     have hl2 : len * e.low ≤ 140737488351232 := Nat.le_trans (Nat.mul_le_mul_left len h4) hlb
     refine ⟨l, ⟨rfl, by unfold big; omega, some a, cap, by rw [hll], by omega, ?_⟩, by omega, by rw [hll]; exact hl2, fun x hx => ?_⟩
     ·by_cases hl0 : l = []
      ·exact .inl hl0
      ·right
       have h0 : 0 < l.length := List.length_pos_iff.2 hl0
       -- the first cell
       obtain ⟨⟨c, hc1, hc2⟩, _⟩ := hp 0 _ (List.getElem?_eq_getElem h0)
       have hc0 : 0 < c.length := by rw [hc1.len]; omega
       have hcell := hc2 0 _ (List.getElem?_eq_getElem hc0)
       rw [show a.add (0 * e.cells + 0) = a by simp [Go.Addr.add]] at hcell
       have hadd : a.spot = none ∧ a.block < w.heap.size := by
        obtain ⟨bb, oo, ss⟩ := a
        simp only [World.cell?] at hcell
        cases ss with
        | none =>
         refine ⟨rfl, ?_⟩
         cases hh : w.heap[bb]? with
         | none => rw [hh] at hcell; cases hcell
         | some ob => exact (Array.getElem?_eq_some_iff.1 hh).1
        | some s =>
         split at hcell
         ·simp at hcell
         ·cases hcell
       obtain ⟨bb, oo, ss⟩ := a
       obtain ⟨hs, hbb⟩ := hadd
       simp only at hs hbb
       subst hs
       obtain ⟨cc, g1, g2⟩ := repL_of (Z := Z) (w := w) (b := bb) (o := oo) l 0 fun i y hy => by
        obtain ⟨⟨c, k1, k2⟩, _⟩ := hp i y hy
        exact ⟨c, k1, fun j u hu => by have := k2 j u hu; rw [aad] at this; rwa [Nat.zero_add]⟩
       exact ⟨bb, oo, cc, rfl, hZ bb hbb, g1, fun j u hu => by have := g2 j u hu; rwa [Nat.zero_mul, Nat.zero_add] at this⟩
     ·obtain ⟨i, hi⟩ := List.getElem?_of_mem hx
      exact (hp i x hi).2
   ·rename_i fs hu
    simp only [Bool.and_eq_true] at h
    have hc := Nat.eq_of_beq_eq_true h.1
    obtain ⟨xs, m, _, rfl, hcl, hxl, hf⟩ := DataW.trod_struct hu hx
    have := ih _ (.inr (fs.toList, 0)) h.2 (fuel := m) (cs := cs) (xs := xs) (by simpa using hxl) (by rw [hcl, hc]; simp) (fun i f hi => hf i f (by simpa using hi)) (fun m hm => hw m (by
     rw [DataW.weights]
     simp only [hu]
     exact hm))
    simpa using this
   ·cases h
  | inr p =>
   obtain ⟨fs, off⟩ := p
   intro fuel cs xs hxs hcs hf hw
   match fs, hxs, hf, hw, h with
   | [], _, _, _, h => simp [fitB] at h
   | [f], hxs, hf, hw, h =>
    simp only [fitB, Bool.and_eq_true] at h
    obtain ⟨⟨h1, h2⟩, h3⟩ := h
    have h1 := Nat.eq_of_beq_eq_true h1
    have h3 := Nat.eq_of_beq_eq_true h3
    obtain ⟨x, rfl⟩ : ∃ x, xs = [x] := by
     match xs, hxs with
     | [x], _ => exact ⟨x, rfl⟩
    have hx := hf 0 f rfl
    rw [h1, List.take_of_length_le (by simp; omega)] at hx
    exact ih τ (.inl f.type) h2 hx (fun m hm => hw m (by simpa [DataW.weightsEach] using hm))
   | f :: g :: fs, hxs, hf, hw, h =>
    cases τ <;> try (simp [fitB] at h; done)
    rename_i a b _
    simp only [fitB, Bool.and_eq_true] at h
    obtain ⟨⟨⟨h1, h2⟩, h3⟩, h4⟩ := h
    have h1 := Nat.eq_of_beq_eq_true h1
    have h3 := Nat.eq_of_beq_eq_true h3
    match xs, hxs with
    | x :: xs, hxs =>
     have hx := hf 0 f rfl
     rw [h1] at hx
     obtain ⟨y, hy, hoy⟩ := ih a (.inl f.type) h2 (x := x) hx (fun m hm => hw m (by simp [DataW.weightsEach]; exact .inl hm))
     obtain ⟨z, hz, hoz⟩ := ih b (.inr (g :: fs, off + a.cells)) h4 (fuel := fuel) (cs := cs) (xs := xs) (by simpa using hxs) (by rw [hcs]; simp only [Ty.cells]; omega) (fun i f' hi => by have := hf (i + 1) f' (by simpa using hi); simpa using this) (fun m hm => hw m (by
      simp only [List.map_cons, DataW.weightsEach, List.mem_append]
      simp only [List.map_cons, DataW.weightsEach, List.mem_append] at hm
      exact .inr hm))
     refine ⟨(y, z), ⟨_, _, [], [], ?_, rfl, hy, hz⟩, hoy, hoz⟩
     rw [h3, ← List.drop_drop, List.take_append_drop]
theorem weights_of {H : Type} {P : Program} {t : TypeId} {x : DataW H} : ∀ {ts : List TypeId} {ds : List (DataW H)} {j : Nat}, (DataW.weightsEach P ts ds).all (· ≤ reachBytes) = true → ts[j]? = some t → ds[j]? = some x → ∀ n ∈ x.weights P t, n ≤ reachBytes := by
 intro ts
 induction ts with
 | nil => intro ds j _ h; simp at h
 | cons a ts ih =>
  intro ds j hw ht hd n hn
  match ds with
  | [] => simp at hd
  | d :: ds =>
   rw [DataW.weightsEach, List.all_append, Bool.and_eq_true] at hw
   cases j with
   | zero =>
    simp at ht hd
    subst ht; subst hd
    simpa using List.all_eq_true.1 hw.1 n hn
   | succ j => exact ih hw.2 (by simpa using ht) (by simpa using hd) n hn
def argFitB (P : Program) (τ : Ty) (t : Nat) : Bool := fitB P 60 τ (.inl t) && (match P.underlying t with | some (.struct _) => !τ.one | _ => τ.one)
theorem arg_open (hZ : ∀ b, b < w.heap.size → Z b) {H : Type} {enc : TypeId × Value → H} {τ : Ty} {t : Nat} (hfit : argFitB P τ t = true) {r : Reach} {base : Nat} {v : Value} {x : DataW H} {ps : List MemPlace} {ts : List TypeId} {ds : List (DataW H)} {j : Nat}
 (hsz : (DataW.weightsEach P ts ds).all (· ≤ reachBytes) = true) (hj : ts[j]? = some t) (hd : ds[j]? = some x) (hv : Value.okWide P w r base t v) (h : DataW.Trod enc P w 0 (fun _ => true) true t v x ps) :
 ∃ y, ArgRep Z w false τ y v [] ∧ okT τ y := by
 unfold argFitB at hfit
 rw [Bool.and_eq_true] at hfit
 obtain ⟨fuel, hf⟩ := h
 have hwt : ∀ n ∈ x.weights P t, n ≤ reachBytes := weights_of hsz hj hd
 obtain ⟨y, hy, ho⟩ := fit_ok (P := P) hZ 60 τ (.inl t) hfit.1 hf hwt
 refine ⟨y, ⟨v.cells.toList, ?_, hy⟩, ho⟩
 have h2 := hfit.2
 have h1 : fitB P (59 + 1) τ (.inl t) = true := hfit.1
 unfold fitB at h1
 split at h1
 ·rename_i hu
  rw [hu] at h2
  obtain ⟨c, rfl⟩ := WideShapes.okWide_bool hu hv
  rw [show (!Ty.bool.one) = false from rfl]; rfl
 ·rename_i k' k hu
  obtain ⟨c, rfl⟩ := WideShapes.okWide_int hu hv
  rfl
 ·rename_i hu
  obtain ⟨c, rfl⟩ := WideShapes.okWide_string hu hv
  rfl
 ·rename_i et e hu
  obtain ⟨a, len, cap, rfl⟩ := WideShapes.okWide_slice hu hv
  rfl
 ·rename_i fs hu
  rw [hu] at h2
  obtain ⟨cs, rfl, _⟩ := WideShapes.okWide_struct hu hv
  simp only at h2
  rw [h2]
  simp [IsV, Value.cells]
 ·cases h1
theorem arg_len {Z : Nat → Prop} {H : Type} {enc : TypeId × Value → H} {e : Ty} {t : Nat} (hfit : argFitB P (.sl e) t = true) {r : Reach} {base : Nat} {v : Value} {x : DataW H} {ps : List MemPlace} (hv : Value.okWide P w r base t v) {y : List e.den} (ha : ArgRep Z w false (.sl e) y v [])
 (h : DataW.Trod enc P w 0 (fun _ => true) true t v x ps) : y = [] ∨ ∃ es rs, x = .slice es rs ∧ es.length = y.length := by
 unfold argFitB at hfit
 rw [Bool.and_eq_true] at hfit
 obtain ⟨fuel, hf⟩ := h
 have h1 : fitB P (59 + 1) (.sl e) (.inl t) = true := hfit.1
 obtain ⟨cs, hcs, hrep⟩ := ha
 obtain ⟨_, _, a, cap, rfl, _⟩ := hrep
 have hcs : [Value.slice a y.length cap] = [v] := hcs
 obtain rfl : Value.slice a y.length cap = v := by simpa using hcs
 unfold fitB at h1
 split at h1
 ·cases ‹Ty.sl e = _›
 ·cases ‹Ty.sl e = _›
 ·cases ‹Ty.sl e = _›
 ·rename_i et e' hu _
  rcases DataW.trod_slice hu hf with ⟨h2, h3⟩ | ⟨a', len, cap', elems, rest, m, _, h2, h4, hb, hl, hm, hlen, hel, hsp, _⟩
  ·left
   have : y.length = 0 := by simp [Value.cells] at h2; omega
   exact List.eq_nil_of_length_eq_zero this
  ·right
   cases h4
   refine ⟨_, _, rfl, ?_⟩
   have : y.length = len := by simp [Value.cells] at h2; omega
   rw [List.length_map]; omega
 ·rename_i fs hu
  have h2 := hfit.2
  rw [hu] at h2
  cases h2
 ·cases h1
end
end Go.Proofs.Ytcefbdknoelacaa.A

-- YtcefbdknoelacaaTb
set_option linter.unusedVariables false
set_option linter.unusedSimpArgs false
namespace Go.Proofs.Ytcefbdknoelacaa.A
open Go
def zrepB : LV → Value → Bool
 | .v .bool b, .bool c => b == c
 | .v (.int k) n, .int k' m => decide (k' = k) && decide (m = n) && decide (k.min ≤ n) && decide (n ≤ k.max)
 | .v .str l, .string s => decide (s.data.toList = l) && decide (l.length ≤ big)
 | .nils, .slice none 0 0 => true
 | .nilm, .map none => true
 | .nilp, .pointer none => true
 | .junk, _ => true
 | _, _ => false
def zrepsB : List LV → List Value → Bool
 | [], [] => true
 | l :: ls, c :: cs => zrepB l c && zrepsB ls cs
 | _, _ => false
def aggB : Value → Bool
 | .agg _ => true
 | .tuple _ => false
 | _ => false
def oneFitsB (P : Program) (t : Nat) : Ty → Bool
 | .int k => (match P.underlying t with | some (.int k') => decide (k' = k) | _ => false)
 | .bool => (match P.underlying t with | some .bool => true | _ => false)
 | .str => (match P.underlying t with | some .string => true | _ => false)
 | _ => false
def eqFB (P : Program) : Nat → List Go.Field → Ty → Bool
 | _, [], _ => false
 | off, [f], τ => decide (f.name ≠ "_") && Nat.beq f.offset off && oneFitsB P f.type τ
 | off, f :: g :: fs, .pair a b => decide (f.name ≠ "_") && Nat.beq f.offset off && oneFitsB P f.type a && eqFB P (off + 1) (g :: fs) b
 | _, _, _ => false
def descFitsB (i : TI) (d : TypeDesc) : Bool :=
 match i.ty, d with
 | .int k, .int k' => decide (k' = k)
 | .int _, _ => false
 | .bool, .bool => true
 | .bool, _ => false
 | .str, .string => true
 | .str, _ => false
 | .sl _, .slice e => Nat.beq e i.elem
 | .sl _, _ => false
 | .map _ _, .map k e => Nat.beq k i.key && Nat.beq e i.elem
 | .map _ _, _ => false
 | _, _ => true
def fieldsB : List Go.Field → List (Nat × Nat) → Bool
 | [], [] => true
 | f :: fs, p :: ps => Nat.beq f.offset p.1 && Nat.beq f.type p.2 && fieldsB fs ps
 | _, _ => false
def rowOkB (P : Program) (t : Nat) (i : TI) : Bool :=
 (match P.info? t with
  | some inf => Nat.beq inf.size i.ty.cells && Nat.beq inf.bytes i.bytes && (match inf.zero with | some z => (aggB z == i.agg) && zrepsB i.zero z.cells.toList && (i.agg || (match z with | .tuple _ => false | _ => true)) | none => false)
  | none => false) &&
 (i.agg || i.ty.one) && Nat.beq i.zero.length i.ty.cells && Nat.ble i.bytes 128 &&
 (match i.agg with
  | true => (match P.underlying t with
   | some (.struct fs) => (fs.toList.mapM (fun f => (P.info? f.type).map fun i => (f.offset, i.size))).isSome && (!i.ty.eqB || (eqFB P 0 fs.toList i.ty && !(P.eqGuardType P.depth t))) && !(P.stoodInHeld t) && fieldsB fs.toList i.fields
   | _ => false)
  | false => (match P.underlying t with | some d => plainDesc d && descFitsB i d | none => false))
section
variable {P : Program}
theorem zrep_of : ∀ {l : LV} {c : Value}, zrepB l c = true → ZRep l c := by
 intro l c h
 unfold zrepB at h
 split at h
 ·rename_i b c
  have : b = c := by simpa using h
  subst this
  rfl
 ·simp only [Bool.and_eq_true, decide_eq_true_eq] at h
  obtain ⟨⟨⟨rfl, rfl⟩, h3⟩, h4⟩ := h
  exact ⟨rfl, h3, h4⟩
 ·rename_i l s
  simp only [Bool.and_eq_true, decide_eq_true_eq] at h
  obtain ⟨h1, h2⟩ := h
  subst h1
  exact ⟨rfl, h2⟩
 ·rfl
 ·rfl
 ·rfl
 ·trivial
 ·cases h
theorem zreps_of : ∀ {ls : List LV} {cs : List Value}, zrepsB ls cs = true → All2 ZRep ls cs
 | [], [], _ => trivial
 | l :: ls, c :: cs, h => by
  simp only [zrepsB, Bool.and_eq_true] at h
  exact ⟨zrep_of h.1, zreps_of h.2⟩
 | [], _ :: _, h => by cases h
 | _ :: _, [], h => by cases h
theorem oneFits_of {t : Nat} {τ : Ty} (h : oneFitsB P t τ = true) : oneFits P t τ := by
 cases τ <;> try (cases h; done)
 all_goals
  simp only [oneFitsB] at h
  split at h
 ·rename_i hu; exact hu
 ·cases h
 ·rename_i k' hu
  have h := of_decide_eq_true h
  subst h
  exact hu
 ·cases h
 ·rename_i hu; exact hu
 ·cases h
theorem eqF_of : ∀ {fs : List Go.Field} {off : Nat} {τ : Ty}, eqFB P off fs τ = true → EqF P off fs τ
 | [], off, τ, h => by simp [eqFB] at h
 | [f], off, τ, h => by
  simp only [eqFB, Bool.and_eq_true, decide_eq_true_eq] at h
  obtain ⟨⟨h1, h2⟩, h3⟩ := h
  cases τ <;> exact ⟨h1, Nat.eq_of_beq_eq_true h2, oneFits_of h3⟩
 | f :: g :: fs, off, τ, h => by
  cases τ <;> try (simp [eqFB] at h; done)
  simp only [eqFB, Bool.and_eq_true, decide_eq_true_eq] at h
  obtain ⟨⟨⟨h1, h2⟩, h3⟩, h4⟩ := h
  exact ⟨h1, Nat.eq_of_beq_eq_true h2, oneFits_of h3, eqF_of h4⟩
theorem descFits_of {i : TI} {d : TypeDesc} (h : descFitsB i d = true) : descFits i d := by
 unfold descFitsB at h
 unfold descFits
 generalize i.ty = τ at h ⊢
 cases τ <;> cases d <;> first
  | exact False.elim (Bool.false_ne_true h)
  | exact trivial
  | exact rfl
  | exact congrArg TypeDesc.int (of_decide_eq_true h)
  | exact congrArg TypeDesc.slice (Nat.eq_of_beq_eq_true h)
  | exact (by
   have h := (Bool.and_eq_true _ _).mp h
   exact congr (congrArg TypeDesc.map (Nat.eq_of_beq_eq_true h.1)) (Nat.eq_of_beq_eq_true h.2))
theorem fields_of : ∀ {fs : List Go.Field} {ps : List (Nat × Nat)}, fieldsB fs ps = true → fs.length = ps.length ∧ ∀ (f o ft : Nat), ps[f]? = some (o, ft) → ∃ fd : Go.Field, fs[f]? = some fd ∧ fd.offset = o ∧ fd.type = ft
 | [], [], _ => ⟨rfl, by simp⟩
 | f :: fs, p :: ps, h => by
  simp only [fieldsB, Bool.and_eq_true] at h
  obtain ⟨⟨h1, h2⟩, h3⟩ := h
  obtain ⟨g1, g2⟩ := fields_of h3
  refine ⟨by simp [g1], fun k o ft hk => ?_⟩
  cases k with
  | zero =>
   simp only [List.getElem?_cons_zero, Option.some.injEq] at hk
   subst hk
   exact ⟨f, rfl, Nat.eq_of_beq_eq_true h1, Nat.eq_of_beq_eq_true h2⟩
  | succ k => simpa using g2 k o ft (by simpa using hk)
 | [], _ :: _, h => by cases h
 | _ :: _, [], h => by cases h
theorem rowOk_of {t : Nat} {i : TI} (h : rowOkB P t i = true) : TyOk P t i := by
 unfold rowOkB at h
 simp only [Bool.and_eq_true] at h
 obtain ⟨⟨⟨⟨h1, h2⟩, h3⟩, h4⟩, h5⟩ := h
 have hagg : i.agg = true → ∃ fs : Array Go.Field, P.underlying t = some (.struct fs) ∧ (fs.toList.mapM (fun f => (P.info? f.type).map fun i => (f.offset, i.size))).isSome = true ∧ (!i.ty.eqB || (eqFB P 0 fs.toList i.ty && !(P.eqGuardType P.depth t))) = true ∧ P.stoodInHeld t = false ∧ fieldsB fs.toList i.fields = true := fun ha => by
  rw [ha] at h5
  simp only at h5
  split at h5
  ·rename_i fs hu
   simp only [Bool.and_eq_true, Bool.not_eq_true'] at h5
   obtain ⟨⟨⟨a1, a2⟩, a3⟩, a4⟩ := h5
   exact ⟨fs, hu, a1, a2, a3, a4⟩
  ·cases h5
 refine ⟨?_, fun ha => ?_, Nat.eq_of_beq_eq_true h3, Nat.le_of_ble_eq_true h4, fun ha => ?_, fun ha he => ?_, fun ha he => ?_, ?_⟩
 ·split at h1
  ·rename_i inf hi
   simp only [Bool.and_eq_true] at h1
   obtain ⟨⟨g1, g2⟩, g3⟩ := h1
   split at g3
   ·rename_i z hz
    simp only [Bool.and_eq_true] at g3
    obtain ⟨⟨k1, k2⟩, k3⟩ := g3
    refine ⟨inf, z, hi, Nat.eq_of_beq_eq_true g1, Nat.eq_of_beq_eq_true g2, hz, ?_, zreps_of k2⟩
    have k1 : aggB z = i.agg := by simpa using k1
    rw [← k1]
    cases z <;> first | rfl | simp [aggB, IsV, Value.cells]
   ·cases g3
  ·cases h1
 ·rw [ha] at h2; simpa using h2
 ·obtain ⟨fs, a1, a2, _⟩ := hagg ha
  obtain ⟨pl, hp⟩ := Option.isSome_iff_exists.1 a2
  exact ⟨fs, pl, a1, hp⟩
 ·obtain ⟨fs, a1, _, a3, _⟩ := hagg ha
  rw [he] at a3
  simp only [Bool.not_true, Bool.false_or, Bool.and_eq_true] at a3
  exact ⟨fs, a1, eqF_of a3.1⟩
 ·obtain ⟨fs, a1, _, a3, _⟩ := hagg ha
  rw [he] at a3
  simp only [Bool.not_true, Bool.false_or, Bool.and_eq_true] at a3
  simpa using a3.2
 ·cases ha : i.agg with
  | true =>
   obtain ⟨fs, a1, _, _, a4, a5⟩ := hagg ha
   obtain ⟨f1, f2⟩ := fields_of a5
   exact ⟨fs, a1, a4, fun f o ft hf => by obtain ⟨fd, q1, q2⟩ := f2 f o ft hf; exact ⟨fd, by simpa using q1, q2⟩, by simpa using f1⟩
  | false =>
   rw [ha] at h5
   simp only at h5
   split at h5
   ·rename_i d hu
    simp only [Bool.and_eq_true] at h5
    exact ⟨d, hu, h5.1, descFits_of h5.2⟩
   ·cases h5
def tabOkB (P : Program) (l : List (Nat × Option TI)) : Bool := l.all fun p => match p.2 with | some i => rowOkB P p.1 i | none => true
theorem tabOk_of {l : List (Nat × Option TI)} (h : tabOkB P l = true) : TabOk P (ofL none l) := by
 intro t i hi
 induction l with
 | nil => cases hi
 | cons p l ih =>
  unfold tabOkB at h
  rw [List.all_cons, Bool.and_eq_true] at h
  obtain ⟨k, x⟩ := p
  rw [ofL_cons] at hi
  by_cases hk : t = k
  ·subst hk
   rw [upd_same] at hi
   subst hi
   exact rowOk_of h.1
  ·rw [upd_other _ _ hk] at hi
   exact ih h.2 hi
end
end Go.Proofs.Ytcefbdknoelacaa.A

-- YtcefbdknoelacaaLw
set_option linter.unusedVariables false
set_option linter.unusedSimpArgs false
namespace Go.Proofs.Ytcefbdknoelacaa.A
open Go
section
variable {P : Program} {tab : Nat → Option TI}
theorem TOk.nil : TOk P (ofL none []) := fun _ _ h => by cases h
theorem TOk.cons {f : Nat} {F : FunE} {l : List (Nat × Option FunE)} (h : FunC P f F) (hl : TOk P (ofL none l)) : TOk P (ofL none ((f, some F) :: l)) := by
 intro g G hg
 rw [ofL_cons] at hg
 by_cases e : g = f
 ·subst e
  rw [upd_same] at hg
  cases hg
  exact h
 ·rw [upd_other _ _ e] at hg
  exact hl g G hg
theorem funC_of (hm : P.follows .mixedOrders = true) (hT : TabOk P tab) {f : FuncId} {fn : Func} (hf : P.funcs[f]? = some fn) {T : Nat → Nat → Option FunE} {ann : Nat → Option (List Keep)} {ins : List (Bool × Ty)} {outs : List Ty} {n : Nat} (hC : ∀ k, TOk P (T k)) (hk : fnOkB fn ins = true) (hn : (fn.name == "runtime.NumGoroutine") = false) : FunC P f (fnE tab T ann fn ins outs n) := by
 refine ⟨fnE_ok hm hT hf (fun k _ => way_ok hT (hC k)) hk, fn, hf, hn, ?_⟩
 simp only [fnOkB, Bool.and_eq_true] at hk
 have := hk.1.1.2
 cases hb : fn.body with
 | none => rw [hb] at this; cases this
 | some _ => rfl
theorem FunC.spec {f : FuncId} {ins : List (Bool × Ty)} {outs : List Ty} {F : Nat → (ins.foldr (fun p t => Ty.pair p.2 t) .unit).den → Option ((outs ++ (ins.filter (·.1)).map (·.2)).foldr Ty.pair .unit).den} {g : (ins.foldr (fun p t => Ty.pair p.2 t) .unit).den → Option ((outs ++ (ins.filter (·.1)).map (·.2)).foldr Ty.pair .unit).den}
 (hF : ∀ n, FunC P f ⟨ins, outs, F n⟩) (h : ∀ x r, g x = some r → ∃ n, F n x = some r) : FunC P f ⟨ins, outs, g⟩ := by
 refine ⟨fun Z w xs vs Fs r h1 h2 h3 h4 h5 => ?_, (hF 0).en⟩
 obtain ⟨n, hn⟩ := h xs r h5
 exact ((hF n).ok Z w xs vs Fs r h1 h2 h3 h4 hn).mono fun e w' ⟨v, Z', us, Fr, Fi, he, p⟩ => ⟨v, Z', us, Fr, Fi, he, ⟨p.kp, p.zs, p.zl, p.zi, p.res, p.v, p.io, p.nd, p.nz⟩⟩
theorem law_end {Z : Nat → Prop} {w w' : World} {F : FunE} {vs us : List Value} {v : Value} {Z' : Nat → Prop} {Fr Fi : List Nat} {r : ((F.outs ++ (F.ins.filter (·.1)).map (·.2)).foldr Ty.pair .unit).den} (p : Post Z w [] F vs r v w' Z' us Fr Fi) {τs : List Ty} (ho : F.outs = [.bool]) {b : Bool} (hb : ResL Z' w' F.outs (splitRes F.outs _ r).1 us Fr → ResL Z' w' [.bool] (b, ()) us Fr) :
 v = .bool b ∧ RowKit.Below w.heap.size w w' := by
 refine ⟨?_, p.kp.os, p.kp.tape, p.kp.output, p.kp.size, fun k hk => p.kp.block k hk (by simp)⟩
 obtain ⟨u, us', F1, F2, e1, e2, ⟨cs, e3, e4⟩, e5, e6⟩ := hb p.res
 have e3 : cs = [u] := e3
 subst e3
 obtain ⟨e7, _⟩ := e4
 rw [p.v, e1, e5]
 simpa [tupOf] using e7
end
end Go.Proofs.Ytcefbdknoelacaa.A

-- YtcefbdknoelacaaShelf
namespace Go.Proofs
open Go.Shelf
def Try.lays106_ren : Go.Shelf.Ren := ⟨fun | 106 => 110 | 213 => 121 | 265 => 134 | n => n, fun | 9 => 9 | 3 => 3 | n => n, fun | n => n⟩
theorem Try.lays106 : Go.Proofs.Lays.n106 Try.prog Try.lays106_ren := {
 mixed := by kernel_rfl
 f106 := Try.func110.trans (congrArg some (by kernel_rfl))
 f213 := Try.func121.trans (congrArg some (by kernel_rfl))
 f265 := Try.func134.trans (congrArg some (by kernel_rfl))
 t3 := Try.underlying3
 a3 := Try.isAgg3
 z3 := Try.sizeOf3
 v3 := Try.zeroValue3
 t9 := Try.underlying9
 a9 := Try.isAgg9
 z9 := Try.sizeOf9
 v9 := Try.zeroValue9 }
open Go.RowKit in
theorem Try.strings_Compare (a b : ByteArray) (w : World) :
 Calls Try.prog 110 #[.string a, .string b] w fun e w' => e = .returned (.int .i64 (Lib.compareBytes a.data.toList b.data.toList)) ∧ w' = w := Any.strings_Compare Try.lays106 a b w
end Go.Proofs

-- YtcefbdknoelacaaK
set_option linter.unusedVariables false
set_option maxRecDepth 100000
namespace Go.Proofs.Ytcefbdknoelacaa.A
open Go
theorem follows : Try.prog.follows .mixedOrders = true := by kernel_rfl
theorem tab_ok : TabOk Try.prog tab := tabOk_of (by kernel_rfl)
theorem compare_less : ∀ a b : List UInt8, Lib.compareBytes a b = if Op.bytesLess a b = true then -1 else if Op.bytesLess b a = true then 1 else 0 := by
 intro a
 induction a with
 | nil => intro b; cases b <;> simp [Lib.compareBytes, Op.bytesLess]
 | cons x a ih =>
  intro b
  cases b with
  | nil => simp [Lib.compareBytes, Op.bytesLess]
  | cons y b =>
   have e1 : Op.bytesLess (x :: a) (y :: b) = (decide (x < y) || (x == y && Op.bytesLess a b)) := by rw [Op.bytesLess]
   have e2 : Op.bytesLess (y :: b) (x :: a) = (decide (y < x) || (y == x && Op.bytesLess b a)) := by rw [Op.bytesLess]
   rw [Lib.compareBytes, e1, e2]
   rcases Nat.lt_trichotomy x.toNat y.toNat with h | h | h
   ·have h1 : x < y := UInt8.lt_iff_toNat_lt.2 h
    simp [h1]
   ·have h3 : x = y := UInt8.toNat_inj.1 h
    subst h3
    have h2 : ¬ x < x := fun h' => by have := UInt8.lt_iff_toNat_lt.1 h'; omega
    simpa [h2] using ih b
   ·have h1 : y < x := UInt8.lt_iff_toNat_lt.2 h
    have h2 : ¬ x < y := fun h' => by have := UInt8.lt_iff_toNat_lt.1 h'; omega
    have h3 : ¬ x = y := fun h' => by subst h'; omega
    simp [h1, h2, h3]
theorem cmpS_range (a b : List UInt8) : IntKind.i64.min ≤ cmpS a b ∧ cmpS a b ≤ IntKind.i64.max := by
 have h1 : IntKind.i64.min = -9223372036854775808 := rfl
 have h2 : IntKind.i64.max = 9223372036854775807 := rfl
 rw [h1, h2]
 unfold cmpS
 split
 ·omega
 ·split <;> omega
theorem strings_Compare.ok (n : Nat) : FunC Try.prog 110 (strings_Compare.E n) := by
 refine ⟨fun Z w xs vs Fs r hZ hA hn hF hr => ?_, Try.f110, Try.func110, by kernel_rfl, by kernel_rfl⟩
 obtain ⟨v0, vs0, F0, G0, rfl, rfl, ⟨c0, i0, q0⟩, v1, vs1, F1, G1, rfl, rfl, ⟨c1, i1, q1⟩, rfl, rfl⟩ := hA
 have i0 : c0 = [v0] := i0
 have i1 : c1 = [v1] := i1
 subst i0; subst i1
 obtain ⟨q0, rfl, l0⟩ := q0
 obtain ⟨q1, rfl, l1⟩ := q1
 simp only [List.cons.injEq, and_true] at q0 q1
 subst q0; subst q1
 have hr : some (cmpS xs.1 xs.2.1, ()) = some r := hr
 cases hr
 refine (Try.strings_Compare ⟨⟨xs.1⟩⟩ ⟨⟨xs.2.1⟩⟩ w).mono ?_
 rintro e w' ⟨rfl, rfl⟩
 refine ⟨_, Z, [.int .i64 (cmpS xs.1 xs.2.1)], [], [], rfl, Kept.refl _ _, fun _ h => h, hZ, fun _ h _ => .inl h, ?_, ?_, ?_, by simp, by simp⟩
 ·exact ⟨_, [], [], [], rfl, rfl, ⟨[_], rfl, rfl, rfl, cmpS_range _ _⟩, rfl, rfl⟩
 ·rw [compare_less]
  rfl
 ·rfl

theorem telemetry_parameter_1.ok (n : Nat) : FunC Try.prog 109 (telemetry_parameter_1.E n) := funC_of follows tab_ok Try.func109 (T := telemetry_parameter_1.T) (ann := telemetry_parameter_1.ann) (ins := telemetry_parameter_1.ins) (outs := telemetry_parameter_1.outs) (n := n) (fun k => TOk.cons (strings_Compare.ok k) (TOk.nil)) (by kernel_rfl) (by kernel_rfl)
theorem kit_In.ok (n : Nat) : FunC Try.prog 55 (kit_In.E n) := funC_of follows tab_ok Try.func55 (T := kit_In.T) (ann := kit_In.ann) (ins := kit_In.ins) (outs := kit_In.outs) (n := n) (fun k => TOk.nil) (by kernel_rfl) (by kernel_rfl)
theorem telemetry_Word.ok (n : Nat) : FunC Try.prog 60 (telemetry_Word.E n) := funC_of follows tab_ok Try.func60 (T := telemetry_Word.T) (ann := telemetry_Word.ann) (ins := telemetry_Word.ins) (outs := telemetry_Word.outs) (n := n) (fun k => TOk.nil) (by kernel_rfl) (by kernel_rfl)
theorem kit_First.ok (n : Nat) : FunC Try.prog 61 (kit_First.E n) := funC_of follows tab_ok Try.func61 (T := kit_First.T) (ann := kit_First.ann) (ins := kit_First.ins) (outs := kit_First.outs) (n := n) (fun k => TOk.nil) (by kernel_rfl) (by kernel_rfl)
theorem telemetry_span.ok (n : Nat) : FunC Try.prog 54 (telemetry_span.E n) := funC_of follows tab_ok Try.func54 (T := telemetry_span.T) (ann := telemetry_span.ann) (ins := telemetry_span.ins) (outs := telemetry_span.outs) (n := n) (fun k => TOk.nil) (by kernel_rfl) (by kernel_rfl)
theorem telemetry_checkDots.ok (n : Nat) : FunC Try.prog 62 (telemetry_checkDots.E n) := funC_of follows tab_ok Try.func62 (T := telemetry_checkDots.T) (ann := telemetry_checkDots.ann) (ins := telemetry_checkDots.ins) (outs := telemetry_checkDots.outs) (n := n) (fun k => TOk.cons (telemetry_span.ok k) (TOk.cons (kit_In.ok k) (TOk.nil))) (by kernel_rfl) (by kernel_rfl)
theorem telemetry_checkWords.ok (n : Nat) : FunC Try.prog 63 (telemetry_checkWords.E n) := funC_of follows tab_ok Try.func63 (T := telemetry_checkWords.T) (ann := telemetry_checkWords.ann) (ins := telemetry_checkWords.ins) (outs := telemetry_checkWords.outs) (n := n) (fun k => TOk.cons (telemetry_span.ok k) (TOk.cons (kit_In.ok k) (TOk.cons (telemetry_Word.ok k) (TOk.nil)))) (by kernel_rfl) (by kernel_rfl)
theorem telemetry_CheckParameters.ok (n : Nat) : FunC Try.prog 18 (telemetry_CheckParameters.E n) := funC_of follows tab_ok Try.func18 (T := telemetry_CheckParameters.T) (ann := telemetry_CheckParameters.ann) (ins := telemetry_CheckParameters.ins) (outs := telemetry_CheckParameters.outs) (n := n) (fun k => TOk.cons (kit_In.ok k) (TOk.cons (telemetry_Word.ok k) (TOk.cons (kit_First.ok k) (TOk.cons (telemetry_checkDots.ok k) (TOk.cons (telemetry_checkWords.ok k) (TOk.nil)))))) (by kernel_rfl) (by kernel_rfl)
theorem slices_BinarySearchFunc_string.ok (n : Nat) : FunC Try.prog 108 (slices_BinarySearchFunc_string.E n) := funC_of follows tab_ok Try.func108 (T := slices_BinarySearchFunc_string.T) (ann := slices_BinarySearchFunc_string.ann) (ins := slices_BinarySearchFunc_string.ins) (outs := slices_BinarySearchFunc_string.outs) (n := n) (fun k => TOk.cons (telemetry_parameter_1.ok k) (TOk.nil)) (by kernel_rfl) (by kernel_rfl)
theorem telemetry_parameter.ok (n : Nat) : FunC Try.prog 53 (telemetry_parameter.E n) := funC_of follows tab_ok Try.func53 (T := telemetry_parameter.T) (ann := telemetry_parameter.ann) (ins := telemetry_parameter.ins) (outs := telemetry_parameter.outs) (n := n) (fun k => TOk.cons (slices_BinarySearchFunc_string.ok k) (TOk.nil)) (by kernel_rfl) (by kernel_rfl)
theorem perigeeref7_within.ok (n : Nat) : FunC Try.prog 65 (perigeeref7_within.E n) := funC_of follows tab_ok Try.func65 (T := perigeeref7_within.T) (ann := perigeeref7_within.ann) (ins := perigeeref7_within.ins) (outs := perigeeref7_within.outs) (n := n) (fun k => TOk.nil) (by kernel_rfl) (by kernel_rfl)
theorem perigeeref7_IsWord.ok (n : Nat) : FunC Try.prog 64 (perigeeref7_IsWord.E n) := funC_of follows tab_ok Try.func64 (T := perigeeref7_IsWord.T) (ann := perigeeref7_IsWord.ann) (ins := perigeeref7_IsWord.ins) (outs := perigeeref7_IsWord.outs) (n := n) (fun k => TOk.cons (perigeeref7_within.ok k) (TOk.nil)) (by kernel_rfl) (by kernel_rfl)
theorem perigeeref7_ends.ok (n : Nat) : FunC Try.prog 75 (perigeeref7_ends.E n) := funC_of follows tab_ok Try.func75 (T := perigeeref7_ends.T) (ann := perigeeref7_ends.ann) (ins := perigeeref7_ends.ins) (outs := perigeeref7_ends.outs) (n := n) (fun k => TOk.nil) (by kernel_rfl) (by kernel_rfl)
theorem perigeeref7_isRaw.ok (n : Nat) : FunC Try.prog 58 (perigeeref7_isRaw.E n) := funC_of follows tab_ok Try.func58 (T := perigeeref7_isRaw.T) (ann := perigeeref7_isRaw.ann) (ins := perigeeref7_isRaw.ins) (outs := perigeeref7_isRaw.outs) (n := n) (fun k => TOk.cons (perigeeref7_within.ok k) (TOk.cons (perigeeref7_ends.ok k) (TOk.nil))) (by kernel_rfl) (by kernel_rfl)
theorem perigeeref7_checkPoints.ok (n : Nat) : FunC Try.prog 66 (perigeeref7_checkPoints.E n) := funC_of follows tab_ok Try.func66 (T := perigeeref7_checkPoints.T) (ann := perigeeref7_checkPoints.ann) (ins := perigeeref7_checkPoints.ins) (outs := perigeeref7_checkPoints.outs) (n := n) (fun k => TOk.cons (perigeeref7_isRaw.ok k) (TOk.cons (perigeeref7_IsWord.ok k) (TOk.cons (perigeeref7_within.ok k) (TOk.nil)))) (by kernel_rfl) (by kernel_rfl)
theorem perigeeref7_CheckParameters.ok (n : Nat) : FunC Try.prog 19 (perigeeref7_CheckParameters.E n) := funC_of follows tab_ok Try.func19 (T := perigeeref7_CheckParameters.T) (ann := perigeeref7_CheckParameters.ann) (ins := perigeeref7_CheckParameters.ins) (outs := perigeeref7_CheckParameters.outs) (n := n) (fun k => TOk.cons (perigeeref7_IsWord.ok k) (TOk.cons (perigeeref7_within.ok k) (TOk.cons (perigeeref7_checkPoints.ok k) (TOk.nil)))) (by kernel_rfl) (by kernel_rfl)
theorem perigeeref7_find.ok (n : Nat) : FunC Try.prog 57 (perigeeref7_find.E n) := funC_of follows tab_ok Try.func57 (T := perigeeref7_find.T) (ann := perigeeref7_find.ann) (ins := perigeeref7_find.ins) (outs := perigeeref7_find.outs) (n := n) (fun k => TOk.nil) (by kernel_rfl) (by kernel_rfl)
theorem slices_Equal_byte.ok (n : Nat) : FunC Try.prog 34 (slices_Equal_byte.E n) := funC_of follows tab_ok Try.func34 (T := slices_Equal_byte.T) (ann := slices_Equal_byte.ann) (ins := slices_Equal_byte.ins) (outs := slices_Equal_byte.outs) (n := n) (fun k => TOk.nil) (by kernel_rfl) (by kernel_rfl)
theorem telemetry_groups.ok (n : Nat) : FunC Try.prog 122 (telemetry_groups.E n) := funC_of follows tab_ok Try.func122 (T := telemetry_groups.T) (ann := telemetry_groups.ann) (ins := telemetry_groups.ins) (outs := telemetry_groups.outs) (n := n) (fun k => TOk.nil) (by kernel_rfl) (by kernel_rfl)
theorem telemetry_squeezed.ok (n : Nat) : FunC Try.prog 112 (telemetry_squeezed.E n) := funC_of follows tab_ok Try.func112 (T := telemetry_squeezed.T) (ann := telemetry_squeezed.ann) (ins := telemetry_squeezed.ins) (outs := telemetry_squeezed.outs) (n := n) (fun k => TOk.cons (telemetry_groups.ok k) (TOk.nil)) (by kernel_rfl) (by kernel_rfl)
theorem telemetry_Squeezed.ok (n : Nat) : FunC Try.prog 67 (telemetry_Squeezed.E n) := funC_of follows tab_ok Try.func67 (T := telemetry_Squeezed.T) (ann := telemetry_Squeezed.ann) (ins := telemetry_Squeezed.ins) (outs := telemetry_Squeezed.outs) (n := n) (fun k => TOk.cons (kit_In.ok k) (TOk.cons (telemetry_squeezed.ok k) (TOk.nil))) (by kernel_rfl) (by kernel_rfl)
theorem perigeelaw7_awake.ok (n : Nat) : FunC Try.prog 20 (perigeelaw7_awake.E n) := funC_of follows tab_ok Try.func20 (T := perigeelaw7_awake.T) (ann := perigeelaw7_awake.ann) (ins := perigeelaw7_awake.ins) (outs := perigeelaw7_awake.outs) (n := n) (fun k => TOk.cons (slices_Equal_byte.ok k) (TOk.cons (telemetry_Squeezed.ok k) (TOk.nil))) (by kernel_rfl) (by kernel_rfl)
theorem telemetry_checkParts.ok (n : Nat) : FunC Try.prog 92 (telemetry_checkParts.E n) := funC_of follows tab_ok Try.func92 (T := telemetry_checkParts.T) (ann := telemetry_checkParts.ann) (ins := telemetry_checkParts.ins) (outs := telemetry_checkParts.outs) (n := n) (fun k => TOk.cons (telemetry_parameter.ok k) (TOk.nil)) (by kernel_rfl) (by kernel_rfl)
theorem telemetry_CheckLayouts.ok (n : Nat) : FunC Try.prog 38 (telemetry_CheckLayouts.E n) := funC_of follows tab_ok Try.func38 (T := telemetry_CheckLayouts.T) (ann := telemetry_CheckLayouts.ann) (ins := telemetry_CheckLayouts.ins) (outs := telemetry_CheckLayouts.outs) (n := n) (fun k => TOk.cons (telemetry_CheckParameters.ok k) (TOk.cons (telemetry_Word.ok k) (TOk.cons (telemetry_checkParts.ok k) (TOk.nil)))) (by kernel_rfl) (by kernel_rfl)
theorem telemetry_layout.ok (n : Nat) : FunC Try.prog 83 (telemetry_layout.E n) := funC_of follows tab_ok Try.func83 (T := telemetry_layout.T) (ann := telemetry_layout.ann) (ins := telemetry_layout.ins) (outs := telemetry_layout.outs) (n := n) (fun k => TOk.nil) (by kernel_rfl) (by kernel_rfl)
theorem telemetry_found.ok (n : Nat) : FunC Try.prog 77 (telemetry_found.E n) := funC_of follows tab_ok Try.func77 (T := telemetry_found.T) (ann := telemetry_found.ann) (ins := telemetry_found.ins) (outs := telemetry_found.outs) (n := n) (fun k => TOk.cons (telemetry_CheckLayouts.ok k) (TOk.cons (telemetry_layout.ok k) (TOk.nil))) (by kernel_rfl) (by kernel_rfl)
theorem telemetry_checkReadings.ok (n : Nat) : FunC Try.prog 78 (telemetry_checkReadings.E n) := funC_of follows tab_ok Try.func78 (T := telemetry_checkReadings.T) (ann := telemetry_checkReadings.ann) (ins := telemetry_checkReadings.ins) (outs := telemetry_checkReadings.outs) (n := n) (fun k => TOk.cons (telemetry_parameter.ok k) (TOk.cons (telemetry_span.ok k) (TOk.cons (kit_In.ok k) (TOk.nil)))) (by kernel_rfl) (by kernel_rfl)
theorem telemetry_row_put.ok (n : Nat) : FunC Try.prog 79 (telemetry_row_put.E n) := funC_of follows tab_ok Try.func79 (T := telemetry_row_put.T) (ann := telemetry_row_put.ann) (ins := telemetry_row_put.ins) (outs := telemetry_row_put.outs) (n := n) (fun k => TOk.nil) (by kernel_rfl) (by kernel_rfl)
theorem slices_Index_string.ok (n : Nat) : FunC Try.prog 116 (slices_Index_string.E n) := funC_of follows tab_ok Try.func116 (T := slices_Index_string.T) (ann := slices_Index_string.ann) (ins := slices_Index_string.ins) (outs := slices_Index_string.outs) (n := n) (fun k => TOk.nil) (by kernel_rfl) (by kernel_rfl)
theorem slices_Contains_string.ok (n : Nat) : FunC Try.prog 93 (slices_Contains_string.E n) := funC_of follows tab_ok Try.func93 (T := slices_Contains_string.T) (ann := slices_Contains_string.ann) (ins := slices_Contains_string.ins) (outs := slices_Contains_string.outs) (n := n) (fun k => TOk.cons (slices_Index_string.ok k) (TOk.nil)) (by kernel_rfl) (by kernel_rfl)
theorem perigeeref7_CheckLayouts.ok (n : Nat) : FunC Try.prog 39 (perigeeref7_CheckLayouts.E n) := funC_of follows tab_ok Try.func39 (T := perigeeref7_CheckLayouts.T) (ann := perigeeref7_CheckLayouts.ann) (ins := perigeeref7_CheckLayouts.ins) (outs := perigeeref7_CheckLayouts.outs) (n := n) (fun k => TOk.cons (perigeeref7_CheckParameters.ok k) (TOk.cons (perigeeref7_find.ok k) (TOk.cons (perigeeref7_IsWord.ok k) (TOk.cons (slices_Contains_string.ok k) (TOk.nil))))) (by kernel_rfl) (by kernel_rfl)
theorem perigeeref7_partsOf.ok (n : Nat) : FunC Try.prog 84 (perigeeref7_partsOf.E n) := funC_of follows tab_ok Try.func84 (T := perigeeref7_partsOf.T) (ann := perigeeref7_partsOf.ann) (ins := perigeeref7_partsOf.ins) (outs := perigeeref7_partsOf.outs) (n := n) (fun k => TOk.cons (perigeeref7_find.ok k) (TOk.nil)) (by kernel_rfl) (by kernel_rfl)
theorem telemetry_raw.ok (n : Nat) : FunC Try.prog 86 (telemetry_raw.E n) := funC_of follows tab_ok Try.func86 (T := telemetry_raw.T) (ann := telemetry_raw.ann) (ins := telemetry_raw.ins) (outs := telemetry_raw.outs) (n := n) (fun k => TOk.nil) (by kernel_rfl) (by kernel_rfl)
theorem telemetry_row_take.ok (n : Nat) : FunC Try.prog 87 (telemetry_row_take.E n) := funC_of follows tab_ok Try.func87 (T := telemetry_row_take.T) (ann := telemetry_row_take.ann) (ins := telemetry_row_take.ins) (outs := telemetry_row_take.outs) (n := n) (fun k => TOk.nil) (by kernel_rfl) (by kernel_rfl)
theorem telemetry_row_ends.ok (n : Nat) : FunC Try.prog 88 (telemetry_row_ends.E n) := funC_of follows tab_ok Try.func88 (T := telemetry_row_ends.T) (ann := telemetry_row_ends.ann) (ins := telemetry_row_ends.ins) (outs := telemetry_row_ends.outs) (n := n) (fun k => TOk.cons (telemetry_row_take.ok k) (TOk.nil)) (by kernel_rfl) (by kernel_rfl)
theorem slices_Equal_apiReading.ok (n : Nat) : FunC Try.prog 33 (slices_Equal_apiReading.E n) := funC_of follows tab_ok Try.func33 (T := slices_Equal_apiReading.T) (ann := slices_Equal_apiReading.ann) (ins := slices_Equal_apiReading.ins) (outs := slices_Equal_apiReading.outs) (n := n) (fun k => TOk.nil) (by kernel_rfl) (by kernel_rfl)
theorem perigeeref7_layoutOf.ok (n : Nat) : FunC Try.prog 90 (perigeeref7_layoutOf.E n) := funC_of follows tab_ok Try.func90 (T := perigeeref7_layoutOf.T) (ann := perigeeref7_layoutOf.ann) (ins := perigeeref7_layoutOf.ins) (outs := perigeeref7_layoutOf.outs) (n := n) (fun k => TOk.cons (perigeeref7_CheckLayouts.ok k) (TOk.cons (perigeeref7_partsOf.ok k) (TOk.nil))) (by kernel_rfl) (by kernel_rfl)
theorem perigeeref7_checkReadings.ok (n : Nat) : FunC Try.prog 94 (perigeeref7_checkReadings.E n) := funC_of follows tab_ok Try.func94 (T := perigeeref7_checkReadings.T) (ann := perigeeref7_checkReadings.ann) (ins := perigeeref7_checkReadings.ins) (outs := perigeeref7_checkReadings.outs) (n := n) (fun k => TOk.cons (perigeeref7_isRaw.ok k) (TOk.nil)) (by kernel_rfl) (by kernel_rfl)
theorem perigeeref7_rawBits.ok (n : Nat) : FunC Try.prog 95 (perigeeref7_rawBits.E n) := funC_of follows tab_ok Try.func95 (T := perigeeref7_rawBits.T) (ann := perigeeref7_rawBits.ann) (ins := perigeeref7_rawBits.ins) (outs := perigeeref7_rawBits.outs) (n := n) (fun k => TOk.nil) (by kernel_rfl) (by kernel_rfl)
theorem perigeeref7_packed.ok (n : Nat) : FunC Try.prog 96 (perigeeref7_packed.E n) := funC_of follows tab_ok Try.func96 (T := perigeeref7_packed.T) (ann := perigeeref7_packed.ann) (ins := perigeeref7_packed.ins) (outs := perigeeref7_packed.outs) (n := n) (fun k => TOk.nil) (by kernel_rfl) (by kernel_rfl)
theorem perigeeref7_bitsIn.ok (n : Nat) : FunC Try.prog 97 (perigeeref7_bitsIn.E n) := funC_of follows tab_ok Try.func97 (T := perigeeref7_bitsIn.T) (ann := perigeeref7_bitsIn.ann) (ins := perigeeref7_bitsIn.ins) (outs := perigeeref7_bitsIn.outs) (n := n) (fun k => TOk.nil) (by kernel_rfl) (by kernel_rfl)
theorem slices_Index_bool.ok (n : Nat) : FunC Try.prog 117 (slices_Index_bool.E n) := funC_of follows tab_ok Try.func117 (T := slices_Index_bool.T) (ann := slices_Index_bool.ann) (ins := slices_Index_bool.ins) (outs := slices_Index_bool.outs) (n := n) (fun k => TOk.nil) (by kernel_rfl) (by kernel_rfl)
theorem slices_Contains_bool.ok (n : Nat) : FunC Try.prog 98 (slices_Contains_bool.E n) := funC_of follows tab_ok Try.func98 (T := slices_Contains_bool.T) (ann := slices_Contains_bool.ann) (ins := slices_Contains_bool.ins) (outs := slices_Contains_bool.outs) (n := n) (fun k => TOk.cons (slices_Index_bool.ok k) (TOk.nil)) (by kernel_rfl) (by kernel_rfl)
theorem perigeeref7_rawOf.ok (n : Nat) : FunC Try.prog 99 (perigeeref7_rawOf.E n) := funC_of follows tab_ok Try.func99 (T := perigeeref7_rawOf.T) (ann := perigeeref7_rawOf.ann) (ins := perigeeref7_rawOf.ins) (outs := perigeeref7_rawOf.outs) (n := n) (fun k => TOk.nil) (by kernel_rfl) (by kernel_rfl)
theorem telemetry_Changes.ok (n : Nat) : FunC Try.prog 42 (telemetry_Changes.E n) := funC_of follows tab_ok Try.func42 (T := telemetry_Changes.T) (ann := telemetry_Changes.ann) (ins := telemetry_Changes.ins) (outs := telemetry_Changes.outs) (n := n) (fun k => TOk.cons (telemetry_parameter.ok k) (TOk.cons (telemetry_found.ok k) (TOk.cons (telemetry_checkReadings.ok k) (TOk.cons (telemetry_row_put.ok k) (TOk.nil))))) (by kernel_rfl) (by kernel_rfl)
theorem telemetry_Changed.ok (n : Nat) : FunC Try.prog 43 (telemetry_Changed.E n) := funC_of follows tab_ok Try.func43 (T := telemetry_Changed.T) (ann := telemetry_Changed.ann) (ins := telemetry_Changed.ins) (outs := telemetry_Changed.outs) (n := n) (fun k => TOk.cons (telemetry_parameter.ok k) (TOk.cons (telemetry_found.ok k) (TOk.cons (telemetry_checkReadings.ok k) (TOk.cons (telemetry_raw.ok k) (TOk.cons (telemetry_row_take.ok k) (TOk.cons (telemetry_row_ends.ok k) (TOk.nil))))))) (by kernel_rfl) (by kernel_rfl)
theorem perigeeref7_Changes.ok (n : Nat) : FunC Try.prog 44 (perigeeref7_Changes.E n) := funC_of follows tab_ok Try.func44 (T := perigeeref7_Changes.T) (ann := perigeeref7_Changes.ann) (ins := perigeeref7_Changes.ins) (outs := perigeeref7_Changes.outs) (n := n) (fun k => TOk.cons (perigeeref7_layoutOf.ok k) (TOk.cons (perigeeref7_checkReadings.ok k) (TOk.cons (perigeeref7_rawBits.ok k) (TOk.cons (perigeeref7_packed.ok k) (TOk.nil))))) (by kernel_rfl) (by kernel_rfl)
theorem slices_Clone_apiReading.ok (n : Nat) : FunC Try.prog 100 (slices_Clone_apiReading.E n) := funC_of follows tab_ok Try.func100 (T := slices_Clone_apiReading.T) (ann := slices_Clone_apiReading.ann) (ins := slices_Clone_apiReading.ins) (outs := slices_Clone_apiReading.outs) (n := n) (fun k => TOk.nil) (by kernel_rfl) (by kernel_rfl)
theorem perigeeref7_Changed.ok (n : Nat) : FunC Try.prog 45 (perigeeref7_Changed.E n) := funC_of follows tab_ok Try.func45 (T := perigeeref7_Changed.T) (ann := perigeeref7_Changed.ann) (ins := perigeeref7_Changed.ins) (outs := perigeeref7_Changed.outs) (n := n) (fun k => TOk.cons (perigeeref7_layoutOf.ok k) (TOk.cons (perigeeref7_checkReadings.ok k) (TOk.cons (perigeeref7_bitsIn.ok k) (TOk.cons (slices_Contains_bool.ok k) (TOk.cons (perigeeref7_rawOf.ok k) (TOk.cons (slices_Clone_apiReading.ok k) (TOk.nil))))))) (by kernel_rfl) (by kernel_rfl)
theorem perigeelaw7_TelemetryChangesMatchSpec.ok (n : Nat) : FunC Try.prog 12 (perigeelaw7_TelemetryChangesMatchSpec.E n) := funC_of follows tab_ok Try.func12 (T := perigeelaw7_TelemetryChangesMatchSpec.T) (ann := perigeelaw7_TelemetryChangesMatchSpec.ann) (ins := perigeelaw7_TelemetryChangesMatchSpec.ins) (outs := perigeelaw7_TelemetryChangesMatchSpec.outs) (n := n) (fun k => TOk.cons (perigeelaw7_awake.ok k) (TOk.cons (slices_Equal_apiReading.ok k) (TOk.cons (slices_Equal_byte.ok k) (TOk.cons (telemetry_Changes.ok k) (TOk.cons (telemetry_Changed.ok k) (TOk.cons (perigeeref7_Changes.ok k) (TOk.cons (perigeeref7_Changed.ok k) (TOk.nil)))))))) (by kernel_rfl) (by kernel_rfl)
end Go.Proofs.Ytcefbdknoelacaa.A

-- YtcefbdknoelacaaPk
set_option linter.unusedVariables false
set_option linter.unusedSimpArgs false
namespace Go.Proofs.Ytcefbdknoelacaa.Pure
open Go Go.Proofs.Ytcefbdknoelacaa.A

def Ev {α : Type} (g : Nat → Option α) (r : α) : Prop := ∃ k, ∀ n, k ≤ n → g n = some r
theorem Ev.now {α : Type} (r : α) : Ev (fun _ => some r) r := ⟨0, fun _ _ => rfl⟩
theorem Ev.rounds {α : Type} {g : Nat → Option α} {r : α} (h : Ev g r) : ∃ k, g k = some r := let ⟨K, h⟩ := h; ⟨K, h K (Nat.le_refl _)⟩
theorem Ev.bind {α β : Type} {g : Nat → Option α} {f : Nat → α → Option β} {a : α} {r : β} (h : Ev g a) (k : Ev (fun n => f n a) r) : Ev (fun n => (g n).bind (f n)) r := by
 obtain ⟨K, h⟩ := h
 obtain ⟨K', k⟩ := k
 refine ⟨max K K', fun n hn => ?_⟩
 simp only [h n (by omega), Option.bind_some]
 exact k n (by omega)
theorem Ev.step {α : Type} {g f : Nat → Option α} {r : α} (h : ∀ k, g (k + 1) = f k) (k : Ev f r) : Ev g r := by
 obtain ⟨K, k⟩ := k
 refine ⟨K + 1, fun n hn => ?_⟩
 obtain ⟨m, rfl⟩ : ∃ m, n = m + 1 := ⟨n - 1, by omega⟩
 rw [h]
 exact k m (by omega)
theorem Ev.eq {α : Type} {g f : Nat → Option α} {r : α} (h : ∀ k, g k = f k) (k : Ev f r) : Ev g r := by
 obtain ⟨K, k⟩ := k
 exact ⟨K, fun n hn => (h n).trans (k n hn)⟩
theorem less_total : ∀ a b : List UInt8, (Op.bytesLess a b || a == b) = !Op.bytesLess b a := by
 intro a
 induction a with
 | nil => intro b; cases b <;> simp [Op.bytesLess]
 | cons x a ih =>
  intro b
  cases b with
  | nil => simp [Op.bytesLess]
  | cons y b =>
   have := ih b
   have e1 : Op.bytesLess (x :: a) (y :: b) = (decide (x < y) || (x == y && Op.bytesLess a b)) := by rw [Op.bytesLess]
   have e2 : Op.bytesLess (y :: b) (x :: a) = (decide (y < x) || (y == x && Op.bytesLess b a)) := by rw [Op.bytesLess]
   rw [e1, e2]
   rcases Nat.lt_trichotomy x.toNat y.toNat with h | h | h
   ·have h1 : x < y := UInt8.lt_iff_toNat_lt.2 h
    have h2 : ¬ y < x := fun h' => by have := UInt8.lt_iff_toNat_lt.1 h'; omega
    have h3 : ¬ y = x := fun h' => by subst h'; omega
    simp [h1, h2, h3]
   ·have h3 : x = y := UInt8.toNat_inj.1 h
    subst h3
    have h2 : ¬ x < x := fun h' => by have := UInt8.lt_iff_toNat_lt.1 h'; omega
    simpa [h2] using this
   ·have h1 : y < x := UInt8.lt_iff_toNat_lt.2 h
    have h2 : ¬ x < y := fun h' => by have := UInt8.lt_iff_toNat_lt.1 h'; omega
    have h3 : ¬ x = y := fun h' => by subst h'; omega
    simp [h1, h2, h3]

theorem w64 {x : Int} (h : -9223372036854775808 ≤ x) (h' : x ≤ 9223372036854775807) : IntKind.wrap .i64 x = x := by
 have e1 : (2 : Int) ^ 64 = 18446744073709551616 := rfl
 have e2 : (2 : Int) ^ (64 - 1) = 9223372036854775808 := rfl
 simp only [IntKind.wrap, IntKind.bits, IntKind.signed, e1, e2, Bool.true_and, decide_eq_true_eq]
 by_cases hh : x % 18446744073709551616 ≥ 9223372036854775808
 ·rw [if_pos hh]; omega
 ·rw [if_neg hh]; omega
theorem Ev.yes {α : Type} {c : Prop} {hd : Decidable c} {g g' : Nat → Option α} {r : α} (h : c) (e : Ev g r) : Ev (fun k => if c then g k else g' k) r := by
 simp only [if_pos h]; exact e
theorem Ev.no {α : Type} {c : Prop} {hd : Decidable c} {g g' : Nat → Option α} {r : α} (h : ¬ c) (e : Ev g' r) : Ev (fun k => if c then g k else g' k) r := by
 simp only [if_neg h]; exact e
theorem Ev.unique {α : Type} {g : Nat → Option α} {r s : α} (h : Ev g r) (h' : Ev g s) : r = s := by
 obtain ⟨K, h⟩ := h
 obtain ⟨K', h'⟩ := h'
 have h1 := h (max K K') (by omega)
 have h2 := h' (max K K') (by omega)
 rw [h1] at h2
 injection h2
theorem Ev.some {α : Type} {o : Option α} {r : α} (h : o = some r) : Ev (fun _ => o) r := by subst h; exact Ev.now _

theorem getD_nat {α : Type} (z : α) (l : List α) (i : Nat) (h : i < l.length) : l.getD i z = l[i] := by
 simp [List.getD_eq_getElem?_getD, List.getElem?_eq_getElem h]
theorem getD_mem {α : Type} {z : α} {l : List α} {i : Nat} (h : i < l.length) : l.getD i z ∈ l := by
 rw [getD_nat z l i h]; exact List.getElem_mem h

theorem bl_cons (x y : UInt8) (a b : List UInt8) : Op.bytesLess (x :: a) (y :: b) = (decide (x < y) || (x == y && Op.bytesLess a b)) := by rw [Op.bytesLess]
theorem less_irrefl (a : List UInt8) : Op.bytesLess a a = false := by
 have := less_total a a
 cases h : Op.bytesLess a a with
 | false => rfl
 | true => rw [h] at this; simp at this
theorem less_ne {a b : List UInt8} (h : Op.bytesLess a b = true) : a ≠ b := by
 intro e
 subst e
 rw [less_irrefl] at h
 cases h
theorem less_tri {a b : List UInt8} (h1 : ¬ Op.bytesLess a b = true) (h2 : a ≠ b) : Op.bytesLess b a = true := by
 have := less_total a b
 rw [show Op.bytesLess a b = false by simpa using h1, show (a == b) = false by simpa using h2] at this
 simpa using this.symm
theorem less_trans : ∀ {a b c : List UInt8}, Op.bytesLess a b = true → Op.bytesLess b c = true → Op.bytesLess a c = true := by
 intro a
 induction a with
 | nil =>
  intro b c h1 h2
  cases b with
  | nil => simp [Op.bytesLess] at h1
  | cons y b =>
   cases c with
   | nil => simp [Op.bytesLess] at h2
   | cons z c => simp [Op.bytesLess]
 | cons x a ih =>
  intro b c h1 h2
  cases b with
  | nil => simp [Op.bytesLess] at h1
  | cons y b =>
   cases c with
   | nil => simp [Op.bytesLess] at h2
   | cons z c =>
    rw [bl_cons] at h1 h2 ⊢
    simp only [Bool.or_eq_true, Bool.and_eq_true, decide_eq_true_eq, beq_iff_eq] at h1 h2 ⊢
    rcases h1 with h1 | ⟨rfl, h1⟩
    ·rcases h2 with h2 | ⟨rfl, h2⟩
     ·left
      have := UInt8.lt_iff_toNat_lt.1 h1
      have := UInt8.lt_iff_toNat_lt.1 h2
      exact UInt8.lt_iff_toNat_lt.2 (by omega)
     ·exact .inl h1
    ·rcases h2 with h2 | ⟨rfl, h2⟩
     ·exact .inl h2
     ·exact .inr ⟨rfl, ih h1 h2⟩
def Twin {α β : Type} (g : Nat → Option α) (g' : Nat → Option β) (R : α → β → Prop) : Prop := ∃ a b, Ev g a ∧ Ev g' b ∧ R a b
section
variable {α β γ δ : Type} {R : α → β → Prop}
theorem Twin.of {g : Nat → Option α} {g' : Nat → Option β} {a : α} {b : β} (h : Ev g a) (h' : Ev g' b) (r : R a b) : Twin g g' R := ⟨a, b, h, h', r⟩
theorem Twin.now {a : α} {b : β} (r : R a b) : Twin (fun _ => some a) (fun _ => some b) R := ⟨a, b, Ev.now _, Ev.now _, r⟩
theorem Twin.mono {g : Nat → Option α} {g' : Nat → Option β} {S : α → β → Prop} (h : Twin g g' S) (k : ∀ a b, S a b → R a b) : Twin g g' R := by
 obtain ⟨a, b, h1, h2, h3⟩ := h
 exact ⟨a, b, h1, h2, k a b h3⟩
theorem Twin.stepL {g f : Nat → Option α} {g' : Nat → Option β} (h : ∀ k, g (k + 1) = f k) (t : Twin f g' R) : Twin g g' R := by
 obtain ⟨a, b, h1, h2, h3⟩ := t
 exact ⟨a, b, Ev.step h h1, h2, h3⟩
theorem Twin.stepR {g : Nat → Option α} {g' f : Nat → Option β} (h : ∀ k, g' (k + 1) = f k) (t : Twin g f R) : Twin g g' R := by
 obtain ⟨a, b, h1, h2, h3⟩ := t
 exact ⟨a, b, h1, Ev.step h h2, h3⟩
theorem Twin.ifL {c : Prop} {hd : Decidable c} {g f : Nat → Option α} {g' : Nat → Option β} (y : c → Twin g g' R) (n : ¬ c → Twin f g' R) : Twin (fun k => if c then g k else f k) g' R := by
 by_cases h : c
 ·simp only [if_pos h]; exact y h
 ·simp only [if_neg h]; exact n h
theorem Twin.ifR {c : Prop} {hd : Decidable c} {g : Nat → Option α} {g' f : Nat → Option β} (y : c → Twin g g' R) (n : ¬ c → Twin g f R) : Twin g (fun k => if c then g' k else f k) R := by
 by_cases h : c
 ·simp only [if_pos h]; exact y h
 ·simp only [if_neg h]; exact n h
theorem Twin.bind {g : Nat → Option γ} {g' : Nat → Option δ} {S : γ → δ → Prop} {f : Nat → γ → Option α} {f' : Nat → δ → Option β} (t : Twin g g' S) (k : ∀ a b, S a b → Twin (fun n => f n a) (fun n => f' n b) R) :
 Twin (fun n => (g n).bind (f n)) (fun n => (g' n).bind (f' n)) R := by
 obtain ⟨a, b, h1, h2, h3⟩ := t
 obtain ⟨a', b', h1', h2', h3'⟩ := k a b h3
 exact ⟨a', b', Ev.bind h1 h1', Ev.bind h2 h2', h3'⟩
theorem Twin.bindL {g : Nat → Option γ} {f : Nat → γ → Option α} {g' : Nat → Option β} {a : γ} (h : Ev g a) (t : Twin (fun n => f n a) g' R) : Twin (fun n => (g n).bind (f n)) g' R := by
 obtain ⟨a', b', h1', h2', h3'⟩ := t
 exact ⟨a', b', Ev.bind h h1', h2', h3'⟩
theorem Twin.bindR {g : Nat → Option γ} {f : Nat → γ → Option β} {g' : Nat → Option α} {a : γ} (h : Ev g a) (t : Twin g' (fun n => f n a) R) : Twin g' (fun n => (g n).bind (f n)) R := by
 obtain ⟨a', b', h1', h2', h3'⟩ := t
 exact ⟨a', b', h1', Ev.bind h h2', h3'⟩
theorem Twin.right {g : Nat → Option α} {g' : Nat → Option β} (t : Twin g g' R) : ∃ b, Ev g' b := by
 obtain ⟨a, b, h1, h2, h3⟩ := t
 exact ⟨b, h2⟩
theorem Ev.split {c : Prop} {hd : Decidable c} {g f : Nat → Option α} {r : α} (y : c → Ev g r) (n : ¬ c → Ev f r) : Ev (fun k => if c then g k else f k) r := by
 by_cases h : c
 ·simp only [if_pos h]; exact y h
 ·simp only [if_neg h]; exact n h
theorem Ev.is {v r : α} (h : v = r) : Ev (fun _ => Option.some v) r := by subst h; exact Ev.now _
end
theorem Twin.yesL {α β : Type} {R : α → β → Prop} {c : Prop} {hd : Decidable c} {g f : Nat → Option α} {g' : Nat → Option β} (h : c) (y : Twin g g' R) : Twin (fun k => if c then g k else f k) g' R := Twin.ifL (fun _ => y) (fun n => absurd h n)
theorem Twin.noL {α β : Type} {R : α → β → Prop} {c : Prop} {hd : Decidable c} {g f : Nat → Option α} {g' : Nat → Option β} (h : ¬ c) (y : Twin f g' R) : Twin (fun k => if c then g k else f k) g' R := Twin.ifL (fun n => absurd n h) (fun _ => y)
theorem Twin.yesR {α β : Type} {R : α → β → Prop} {c : Prop} {hd : Decidable c} {g : Nat → Option α} {g' f : Nat → Option β} (h : c) (y : Twin g g' R) : Twin g (fun k => if c then g' k else f k) R := Twin.ifR (fun _ => y) (fun n => absurd h n)
theorem Twin.noR {α β : Type} {R : α → β → Prop} {c : Prop} {hd : Decidable c} {g : Nat → Option α} {g' f : Nat → Option β} (h : ¬ c) (y : Twin g f R) : Twin g (fun k => if c then g' k else f k) R := Twin.ifR (fun n => absurd n h) (fun _ => y)

end Go.Proofs.Ytcefbdknoelacaa.Pure

-- YtcefbdknoelacaaQ1
set_option linter.unusedVariables false
set_option linter.unusedSimpArgs false
namespace Go.Proofs.Ytcefbdknoelacaa.Pure
open Go Go.Proofs.Ytcefbdknoelacaa.A

theorem in_ev (n : Nat) (a l h : Int) : kit_In.f n a l h = some (decide (l ≤ a ∧ a ≤ h), ()) := by
 rw [kit_In.f_eq]
 by_cases h1 : l ≤ a <;> simp [h1]
theorem within_ev (n : Nat) (a l h : Int) : perigeeref7_within.f n a l h = some (decide (l ≤ a ∧ a ≤ h), ()) := by
 rw [perigeeref7_within.f_eq]
 by_cases h1 : l ≤ a <;> simp [h1]

theorem word_loop (s : List UInt8) (hs : s.length ≤ 140737488351232) : ∀ (d i : Nat), i + d = s.length → (i = 0 → 97 ≤ ((s.getD 0 0).toNat : Int) ∧ ((s.getD 0 0).toNat : Int) ≤ 122) →
 Twin (fun k => telemetry_Word.c1 k s (s.length : Int) i) (fun k => perigeeref7_IsWord.c1 k s (s.length : Int) i) (fun a b => a = b) := by
 intro d
 induction d with
 | zero =>
  intro i hi h0
  refine Twin.stepL (fun k => by rw [telemetry_Word.c1_eq]) (Twin.stepR (fun k => by rw [perigeeref7_IsWord.c1_eq]) ?_)
  simp only [decide_eq_true_eq]
  repeat' (first | (exfalso; omega) | (refine Twin.ifL (fun h_ => ?_) (fun h_ => ?_)) | (refine Twin.ifR (fun h_ => ?_) (fun h_ => ?_)))
  exact Twin.now rfl
 | succ d ih =>
  intro i hi h0
  have next := ih (i + 1) (by omega) (by omega)
  refine Twin.stepL (fun k => by rw [telemetry_Word.c1_eq]) (Twin.stepR (fun k => by rw [perigeeref7_IsWord.c1_eq]) ?_)
  rw [w64 (x := (i : Int) + 1) (by omega) (by omega)]
  have h1 : (i : Int) = 0 → 97 ≤ ((s.getD ((i : Int)).toNat 0).toNat : Int) ∧ ((s.getD ((i : Int)).toNat 0).toNat : Int) ≤ 122 := by
   intro h
   rw [h]
   exact h0 (by omega)
  generalize ((s.getD ((i : Int)).toNat 0).toNat : Int) = c at h1
  simp only [decide_eq_true_eq, Bool.not_eq_true', decide_eq_false_iff_not]
  repeat' (first | (exfalso; omega) | (refine Twin.ifL (fun h_ => ?_) (fun h_ => ?_)) | (refine Twin.ifR (fun h_ => ?_) (fun h_ => ?_)))
  all_goals first | exact next | exact Twin.now rfl
theorem word_ev (s : List UInt8) (hs : s.length ≤ 140737488351232) : ∃ b, Ev (fun k => telemetry_Word.f k s) (b, ()) ∧ Ev (fun k => perigeeref7_IsWord.f k s) (b, ()) := by
 have : Twin (fun k => telemetry_Word.f k s) (fun k => perigeeref7_IsWord.f k s) (fun a b => a = b) := by
  have e : (s = []) ↔ s.length = 0 := by cases s <;> simp
  simp only [telemetry_Word.f_eq, perigeeref7_IsWord.f_eq, within_ev, Option.bind_some, decide_eq_true_eq, Bool.not_eq_true', decide_eq_false_iff_not, e]
  repeat' (first | (exfalso; omega) | (refine Twin.ifL (fun h_ => ?_) (fun h_ => ?_)) | (refine Twin.ifR (fun h_ => ?_) (fun h_ => ?_)))
  all_goals (try refine Twin.stepL (fun k => by rw [telemetry_Word.c0_eq]) ?_)
  all_goals (try refine Twin.stepR (fun k => by rw [perigeeref7_IsWord.c0_eq]) ?_)
  all_goals first | exact Twin.now rfl | exact word_loop s hs s.length 0 (by omega) (fun _ => by omega) | skip
  all_goals (try (refine Twin.stepL (fun k => by rw [telemetry_Word.c1_eq]) ?_; simp only [decide_eq_true_eq, Bool.not_eq_true', decide_eq_false_iff_not, Int.toNat_zero]; (repeat' (first | (exfalso; omega) | (refine Twin.ifL (fun h_ => ?_) (fun h_ => ?_))))))
  all_goals first | exact Twin.now rfl | exact absurd trivial ‹¬True›
 obtain ⟨a, b, h1, h2, rfl⟩ := this
 exact ⟨a.1, h1, h2⟩

theorem shl_one : ∀ n : Nat, n ≤ 24 → shlI .i64 1 (n : Int) = ((2 ^ n : Nat) : Int) := by
 intro n hn
 have : ∀ m : Fin 25, shlI .i64 1 ((m.val : Nat) : Int) = ((2 ^ m.val : Nat) : Int) := by decide +kernel
 exact this ⟨n, by omega⟩
theorem shl_neg : ∀ n : Nat, n ≤ 24 → shlI .i64 (-1) (n : Int) = -((2 ^ n : Nat) : Int) := by
 intro n hn
 have : ∀ m : Fin 25, shlI .i64 (-1) ((m.val : Nat) : Int) = -((2 ^ m.val : Nat) : Int) := by decide +kernel
 exact this ⟨n, by omega⟩
abbrev Par := DParameter
def lo (p : Par) : Int := if p.2.2.1 = true then -((2 ^ (p.2.1 - 1).toNat : Nat) : Int) else 0
def hi (p : Par) : Int := if p.2.2.1 = true then ((2 ^ (p.2.1 - 1).toNat : Nat) : Int) - 1 else ((2 ^ p.2.1.toNat : Nat) : Int) - 1
theorem pow_bd : ∀ n : Nat, n ≤ 24 → 1 ≤ 2 ^ n ∧ 2 ^ n ≤ 16777216 := by decide +kernel
theorem span_ev (k : Nat) (p : Par) (h : 1 ≤ p.2.1 ∧ p.2.1 ≤ 24) : telemetry_span.f k p = some (lo p, hi p, ()) := by
 obtain ⟨n, hn⟩ : ∃ n : Nat, p.2.1 = (n : Int) + 1 := ⟨(p.2.1 - 1).toNat, by omega⟩
 have b1 := pow_bd n (by omega)
 have b2 := pow_bd (n + 1) (by omega)
 rw [telemetry_span.f_eq]
 unfold lo hi
 rw [hn, w64 (x := (n : Int) + 1 - 1) (by omega) (by omega), show (n : Int) + 1 - 1 = n by omega, shl_neg n (by omega), shl_one n (by omega), show ((n : Int) + 1) = ((n + 1 : Nat) : Int) by omega, shl_one (n + 1) (by omega)]
 rw [w64 (by omega) (by omega), w64 (by omega) (by omega)]
 simp only [Int.toNat_natCast]
 by_cases hb : p.2.2.1 = true
 ·simp [hb]
 ·simp [hb]
  omega
theorem ends_ev (k : Nat) (p : Par) (h : 1 ≤ p.2.1 ∧ p.2.1 ≤ 24) : perigeeref7_ends.f k p = some (lo p, hi p, ()) := by
 rw [← span_ev k p h, perigeeref7_ends.f_eq, telemetry_span.f_eq]
theorem isRaw_ev (k : Nat) (p : Par) (h : 1 ≤ p.2.1 ∧ p.2.1 ≤ 24) (n : Int) : perigeeref7_isRaw.f k p n = some (decide (lo p ≤ n ∧ n ≤ hi p), ()) := by
 rw [perigeeref7_isRaw.f_eq, ends_ev k p h]
 simp only [Option.bind_some, within_ev]
def Dots (p : Par) (i : Nat) : Prop := ∀ j : Nat, i ≤ j → j < p.2.2.2.1.length → (lo p ≤ (p.2.2.2.1.getD j (Ty.dflt YShare)).1 ∧ (p.2.2.2.1.getD j (Ty.dflt YShare)).1 ≤ hi p) ∧ (-1000000000 ≤ (p.2.2.2.1.getD j (Ty.dflt YShare)).2 ∧ (p.2.2.2.1.getD j (Ty.dflt YShare)).2 ≤ 1000000000) ∧ (0 < j → (p.2.2.2.1.getD ((j : Int) - 1).toNat (Ty.dflt YShare)).1 < (p.2.2.2.1.getD j (Ty.dflt YShare)).1)
theorem dots_loop (p : Par) (hb : 1 ≤ p.2.1 ∧ p.2.1 ≤ 24) (hl : p.2.2.2.1.length ≤ 50) (s : Int)
 (hs : Ev (fun k => if 50 < (p.2.2.2.2.length : Int) then some (2, ()) else perigeeref7_checkPoints.c1 k p.1 p.2.1 p.2.2.1 p.2.2.2.1 p.2.2.2.2 p.2.2.2.2 (p.2.2.2.2.length : Int) 0) (s, ())) : ∀ (d i : Nat), i + d = p.2.2.2.1.length →
 Twin (fun k => telemetry_checkDots.c0 k p.1 p.2.1 p.2.2.1 p.2.2.2.1 p.2.2.2.2 (lo p) (hi p) p.2.2.2.1 (p.2.2.2.1.length : Int) i) (fun k => perigeeref7_checkPoints.c0 k p.1 p.2.1 p.2.2.1 p.2.2.2.1 p.2.2.2.2 p.2.2.2.1 (p.2.2.2.1.length : Int) i)
  (fun a b => b.1 = (if a.1 = 0 then s else a.1) ∧ (a.1 = 0 → Dots p i)) := by
 intro d
 induction d with
 | zero =>
  intro i hij
  refine Twin.stepL (fun k => by rw [telemetry_checkDots.c0_eq]) (Twin.stepR (fun k => by rw [perigeeref7_checkPoints.c0_eq]) ?_)
  simp only [decide_eq_true_eq]
  refine Twin.noL (by omega) (Twin.noR (by omega) ?_)
  exact ⟨(0, ()), (s, ()), Ev.now _, hs, rfl, fun _ j h1 h2 => by omega⟩
 | succ d ih =>
  intro i hij
  have next := ih (i + 1) (by omega)
  refine Twin.stepL (fun k => by rw [telemetry_checkDots.c0_eq]) (Twin.stepR (fun k => by rw [perigeeref7_checkPoints.c0_eq]) ?_)
  have hraw : ∀ k n, perigeeref7_isRaw.f k (p.1, (p.2.1, (p.2.2.1, (p.2.2.2.1, p.2.2.2.2)))) n = some (decide (lo p ≤ n ∧ n ≤ hi p), ()) := fun k n => isRaw_ev k p hb n
  rw [w64 (x := (i : Int) - 1) (by omega) (by omega), w64 (x := (i : Int) + 1) (by omega) (by omega)]
  simp only [in_ev, hraw, within_ev, Option.bind_some, decide_eq_true_eq, Bool.not_eq_true', decide_eq_false_iff_not, Int.toNat_natCast]
  have fin : (lo p ≤ (p.2.2.2.1.getD i (Ty.dflt YShare)).1 ∧ (p.2.2.2.1.getD i (Ty.dflt YShare)).1 ≤ hi p) → (-1000000000 ≤ (p.2.2.2.1.getD i (Ty.dflt YShare)).2 ∧ (p.2.2.2.1.getD i (Ty.dflt YShare)).2 ≤ 1000000000) → (0 < i → (p.2.2.2.1.getD ((i : Int) - 1).toNat (Ty.dflt YShare)).1 < (p.2.2.2.1.getD i (Ty.dflt YShare)).1) →
   Twin (fun k => telemetry_checkDots.c0 k p.1 p.2.1 p.2.2.1 p.2.2.2.1 p.2.2.2.2 (lo p) (hi p) p.2.2.2.1 (p.2.2.2.1.length : Int) ((i : Int) + 1)) (fun k => perigeeref7_checkPoints.c0 k p.1 p.2.1 p.2.2.1 p.2.2.2.1 p.2.2.2.2 p.2.2.2.1 (p.2.2.2.1.length : Int) ((i : Int) + 1))
    (fun a b => b.1 = (if a.1 = 0 then s else a.1) ∧ (a.1 = 0 → Dots p i)) := by
   intro g1 g2 hlt
   refine Twin.mono next fun a b ⟨h1, h2⟩ => ⟨h1, fun ha j h3 h4 => ?_⟩
   rcases Nat.lt_or_ge i j with h5 | h5
   ·exact h2 ha j h5 h4
   ·obtain rfl : j = i := by omega
    exact ⟨g1, g2, hlt⟩
  repeat' (first | (exfalso; omega) | (refine Twin.ifL (fun h_ => ?_) (fun h_ => ?_)) | (refine Twin.ifR (fun h_ => ?_) (fun h_ => ?_)))
  all_goals first | exact Twin.now ⟨rfl, fun h => absurd h (by decide)⟩ | exact fin (by omega) (by omega) (fun _ => by omega)
theorem dots_ev (p : Par) (hb : 1 ≤ p.2.1 ∧ p.2.1 ≤ 24) (s : Int)
 (hs : Ev (fun k => if 50 < (p.2.2.2.2.length : Int) then some (2, ()) else perigeeref7_checkPoints.c1 k p.1 p.2.1 p.2.2.1 p.2.2.2.1 p.2.2.2.2 p.2.2.2.2 (p.2.2.2.2.length : Int) 0) (s, ())) :
 Twin (fun k => telemetry_checkDots.f k p) (fun k => perigeeref7_checkPoints.f k p) (fun a b => b.1 = (if a.1 = 0 then s else a.1) ∧ (a.1 = 0 → Dots p 0 ∧ p.2.2.2.1.length ≤ 50 ∧ p.2.2.2.1.length ≠ 1)) := by
 simp only [telemetry_checkDots.f_eq, perigeeref7_checkPoints.f_eq, span_ev _ p hb, Option.bind_some, decide_eq_true_eq]
 repeat' (first | (exfalso; omega) | (refine Twin.ifL (fun h_ => ?_) (fun h_ => ?_)) | (refine Twin.ifR (fun h_ => ?_) (fun h_ => ?_)))
 ·exact Twin.now ⟨rfl, fun h => absurd h (by decide)⟩
 ·exact Twin.now ⟨rfl, fun h => absurd h (by decide)⟩
 ·exact Twin.mono (dots_loop p hb (by omega) s hs p.2.2.2.1.length 0 (by omega)) fun a b ⟨h1, h2⟩ => ⟨h1, fun h => ⟨h2 h, by omega, by omega⟩⟩

theorem words_loop (p : Par) (hb : 1 ≤ p.2.1 ∧ p.2.1 ≤ 24) (hl : p.2.2.2.2.length ≤ 50) (hn : ∀ z ∈ p.2.2.2.2, z.2.length ≤ 140737488351232) : ∀ (d i : Nat), i + d = p.2.2.2.2.length →
 Twin (fun k => telemetry_checkWords.c0 k p.1 p.2.1 p.2.2.1 p.2.2.2.1 p.2.2.2.2 (lo p) (hi p) p.2.2.2.2 (p.2.2.2.2.length : Int) i) (fun k => perigeeref7_checkPoints.c1 k p.1 p.2.1 p.2.2.1 p.2.2.2.1 p.2.2.2.2 p.2.2.2.2 (p.2.2.2.2.length : Int) i) (fun a b => a = b) := by
 intro d
 induction d with
 | zero =>
  intro i hij
  refine Twin.stepL (fun k => by rw [telemetry_checkWords.c0_eq]) (Twin.stepR (fun k => by rw [perigeeref7_checkPoints.c1_eq]) ?_)
  simp only [decide_eq_true_eq]
  refine Twin.noL (by omega) (Twin.noR (by omega) ?_)
  exact Twin.now rfl
 | succ d ih =>
  intro i hij
  have next := ih (i + 1) (by omega)
  refine Twin.stepL (fun k => by rw [telemetry_checkWords.c0_eq]) (Twin.stepR (fun k => by rw [perigeeref7_checkPoints.c1_eq]) ?_)
  have hraw : ∀ k n, perigeeref7_isRaw.f k (p.1, (p.2.1, (p.2.2.1, (p.2.2.2.1, p.2.2.2.2)))) n = some (decide (lo p ≤ n ∧ n ≤ hi p), ()) := fun k n => isRaw_ev k p hb n
  have h1 : ((i : Nat) : Int) < (p.2.2.2.2.length : Int) := by omega
  rw [w64 (x := (i : Int) - 1) (by omega) (by omega), w64 (x := (i : Int) + 1) (by omega) (by omega)]
  simp only [in_ev, hraw, within_ev, Option.bind_some, decide_eq_true_eq, Bool.not_eq_true', decide_eq_false_iff_not, Int.toNat_natCast]
  simp only [if_pos h1, if_pos (show (0 : Int) ≤ (i : Int) ∧ (i : Int) < (p.2.2.2.2.length : Int) by omega)]
  obtain ⟨b, e1, e2⟩ := word_ev (p.2.2.2.2.getD i (Ty.dflt YDue)).2 (hn _ (getD_mem (by omega)))
  refine Twin.ifL (fun h2 => Twin.yesR h2 (Twin.now rfl)) (fun h2 => Twin.noR h2 ?_)
  refine Twin.bindL e1 (Twin.bindR e2 ?_)
  refine Twin.ifL (fun h3 => Twin.yesR h3 (Twin.now rfl)) (fun h3 => Twin.noR h3 ?_)
  repeat' (first | (exfalso; omega) | (refine Twin.ifL (fun h_ => ?_) (fun h_ => ?_)) | (refine Twin.ifR (fun h_ => ?_) (fun h_ => ?_)))
  all_goals first | exact Twin.now rfl | exact next
theorem words_ev (p : Par) (hb : 1 ≤ p.2.1 ∧ p.2.1 ≤ 24) (hn : ∀ z ∈ p.2.2.2.2, z.2.length ≤ 140737488351232) :
 ∃ s, Ev (fun k => telemetry_checkWords.f k p) (s, ()) ∧ Ev (fun k => if 50 < (p.2.2.2.2.length : Int) then some (2, ()) else perigeeref7_checkPoints.c1 k p.1 p.2.1 p.2.2.1 p.2.2.2.1 p.2.2.2.2 p.2.2.2.2 (p.2.2.2.2.length : Int) 0) (s, ()) ∧ (s = 0 → p.2.2.2.2.length ≤ 50) := by
 have : Twin (fun k => telemetry_checkWords.f k p) (fun k => if 50 < (p.2.2.2.2.length : Int) then some (2, ()) else perigeeref7_checkPoints.c1 k p.1 p.2.1 p.2.2.1 p.2.2.2.1 p.2.2.2.2 p.2.2.2.2 (p.2.2.2.2.length : Int) 0) (fun a b => a = b ∧ (a.1 = 0 → p.2.2.2.2.length ≤ 50)) := by
  simp only [telemetry_checkWords.f_eq, span_ev _ p hb, Option.bind_some, decide_eq_true_eq]
  repeat' (first | (exfalso; omega) | (refine Twin.ifL (fun h_ => ?_) (fun h_ => ?_)) | (refine Twin.ifR (fun h_ => ?_) (fun h_ => ?_)))
  ·exact Twin.now ⟨rfl, fun h => absurd h (by decide)⟩
  ·exact Twin.mono (words_loop p hb (by omega) hn p.2.2.2.2.length 0 (by omega)) fun a b h => ⟨h, fun _ => by omega⟩
 obtain ⟨a, b, h1, h2, rfl, h3⟩ := this
 exact ⟨a.1, h1, h2, h3⟩

theorem first_ev (a b : Int) : Ev (fun k => kit_First.f k [a, b]) (if a = 0 then b else a, ()) := by
 refine Ev.eq (fun k => by rw [kit_First.f_eq]) ?_
 refine Ev.step (fun k => by rw [kit_First.c0_eq]) ?_
 simp only [decide_eq_true_eq, Bool.not_eq_true', decide_eq_false_iff_not, List.length_cons, List.length_nil]
 rw [show ([a, b] : List Int).getD (0 : Int).toNat 0 = a from rfl, show IntKind.wrap .i64 (0 + 1) = 1 from w64 (by omega) (by omega)]
 refine Ev.yes (by omega) (Ev.yes (by omega) (Ev.split (fun h => ?_) (fun h => ?_)))
 ·rw [if_neg h]
  exact Ev.now _
 ·have h : a = 0 := by simpa using h
  rw [if_pos h]
  refine Ev.step (fun k => by rw [kit_First.c0_eq]) ?_
  simp only [decide_eq_true_eq, Bool.not_eq_true', decide_eq_false_iff_not, List.length_cons, List.length_nil]
  rw [show ([a, b] : List Int).getD (1 : Int).toNat 0 = b from rfl, show IntKind.wrap .i64 (1 + 1) = 2 from w64 (by omega) (by omega)]
  refine Ev.yes (by omega) (Ev.yes (by omega) (Ev.split (fun h => Ev.now _) (fun h => ?_)))
  have h : b = 0 := by simpa using h
  refine Ev.step (fun k => by rw [kit_First.c0_eq]) ?_
  simp only [decide_eq_true_eq]
  refine Ev.no (by simp) ?_
  rw [h]
  exact Ev.now _

def Fit (p : Par) : Prop := (1 ≤ p.2.1 ∧ p.2.1 ≤ 24) ∧ Dots p 0 ∧ p.2.2.2.1.length ≤ 50 ∧ p.2.2.2.1.length ≠ 1 ∧ p.2.2.2.2.length ≤ 50
def Fits (l : List DParameter) (i : Nat) : Prop := ∀ j : Nat, i ≤ j → j < l.length → Fit (l.getD j (Ty.dflt YParameter)) ∧ (0 < j → lessS (l.getD ((j : Int) - 1).toNat (Ty.dflt YParameter)).1 (l.getD j (Ty.dflt YParameter)).1 = true)
theorem params_loop (l : List DParameter) (hl : l.length ≤ 500) (hn : ∀ z ∈ l, okT YParameter z) : ∀ (d i : Nat), i + d = l.length →
 Twin (fun k => telemetry_CheckParameters.c0 k l l (l.length : Int) i) (fun k => perigeeref7_CheckParameters.c0 k l l (l.length : Int) i) (fun a b => a = b ∧ (a.1 = 0 → Fits l i)) := by
 intro d
 induction d with
 | zero =>
  intro i hij
  refine Twin.stepL (fun k => by rw [telemetry_CheckParameters.c0_eq]) (Twin.stepR (fun k => by rw [perigeeref7_CheckParameters.c0_eq]) ?_)
  simp only [decide_eq_true_eq]
  refine Twin.noL (by omega) (Twin.noR (by omega) ?_)
  exact Twin.now ⟨rfl, fun _ j h1 h2 => by omega⟩
 | succ d ih =>
  intro i hij
  have next := ih (i + 1) (by omega)
  refine Twin.stepL (fun k => by rw [telemetry_CheckParameters.c0_eq]) (Twin.stepR (fun k => by rw [perigeeref7_CheckParameters.c0_eq]) ?_)
  have h1 : ((i : Nat) : Int) < (l.length : Int) := by omega
  have hp : okT YParameter (l.getD i (Ty.dflt YParameter)) := hn _ (getD_mem (by omega))
  rw [w64 (x := (i : Int) - 1) (by omega) (by omega), w64 (x := (i : Int) + 1) (by omega) (by omega)]
  simp only [in_ev, within_ev, Option.bind_some, decide_eq_true_eq, Bool.not_eq_true', decide_eq_false_iff_not, Int.toNat_natCast]
  simp only [if_pos h1, if_pos (show (0 : Int) ≤ (i : Int) ∧ (i : Int) < (l.length : Int) by omega)]
  obtain ⟨b, e1, e2⟩ := word_ev (l.getD i (Ty.dflt YParameter)).1 hp.1
  refine Twin.bindL e1 (Twin.bindR e2 ?_)
  refine Twin.ifL (fun h3 => Twin.yesR h3 (Twin.now ⟨rfl, fun h => absurd h (by decide)⟩)) (fun h3 => Twin.noR h3 ?_)
  refine Twin.ifL (fun h4 => Twin.yesR h4 (Twin.now ⟨rfl, fun h => absurd h (by decide)⟩)) (fun h4 => Twin.noR h4 ?_)
  have h4 : 1 ≤ (l.getD i (Ty.dflt YParameter)).2.1 ∧ (l.getD i (Ty.dflt YParameter)).2.1 ≤ 24 := by simpa using h4
  obtain ⟨s, w1, w2, w3⟩ := words_ev (l.getD i (Ty.dflt YParameter)) h4 (fun z hz => (hp.2.2.2.2.2.2 z hz).2)
  obtain ⟨a, c, d1, d2, d4, d3⟩ := dots_ev (l.getD i (Ty.dflt YParameter)) h4 s w2
  refine Twin.bindL d1 (Twin.bindL w1 (Twin.bindL (first_ev a.1 s) (Twin.bindR d2 ?_)))
  rw [d4]
  refine Twin.ifL (fun h5 => Twin.yesR h5 (Twin.now ⟨rfl, fun h => absurd h h5⟩)) (fun h5 => Twin.noR h5 ?_)
  have h5 : (if a.1 = 0 then s else a.1) = 0 := by simpa using h5
  have ha : a.1 = 0 := by
   by_cases h : a.1 = 0
   ·exact h
   ·rw [if_neg h] at h5; exact absurd h5 h
  rw [if_pos ha] at h5
  have fit : Fit (l.getD i (Ty.dflt YParameter)) := ⟨h4, (d3 ha).1, (d3 ha).2.1, (d3 ha).2.2, w3 h5⟩
  have fin : (0 < i → lessS (l.getD ((i : Int) - 1).toNat (Ty.dflt YParameter)).1 (l.getD i (Ty.dflt YParameter)).1 = true) → Twin (fun k => telemetry_CheckParameters.c0 k l l (l.length : Int) ((i : Int) + 1)) (fun k => perigeeref7_CheckParameters.c0 k l l (l.length : Int) ((i : Int) + 1)) (fun a b => a = b ∧ (a.1 = 0 → Fits l i)) := by
   intro hlt
   refine Twin.mono next fun a b ⟨h1, h2⟩ => ⟨h1, fun ha j h3 h4 => ?_⟩
   rcases Nat.lt_or_ge i j with h5 | h5
   ·exact h2 ha j h5 h4
   ·obtain rfl : j = i := by omega
    exact ⟨fit, hlt⟩
  refine Twin.ifL (fun h6 => Twin.yesR h6 ?_) (fun h6 => Twin.noR h6 (fin fun h => absurd h (by omega)))
  refine Twin.yesL (by omega) (Twin.yesR (by omega) ?_)
  refine Twin.ifL (fun h7 => Twin.yesR h7 (Twin.now ⟨rfl, fun h => absurd h (by decide)⟩)) (fun h7 => Twin.noR h7 (fin fun _ => by simpa using h7))
theorem params_ev (l : List DParameter) (h : okT (.sl YParameter) l) : ∃ c, Ev (fun k => telemetry_CheckParameters.f k l) (c, ()) ∧ Ev (fun k => perigeeref7_CheckParameters.f k l) (c, ()) ∧ (c = 0 → l.length ≤ 500 ∧ Fits l 0) := by
 have : Twin (fun k => telemetry_CheckParameters.f k l) (fun k => perigeeref7_CheckParameters.f k l) (fun a b => a = b ∧ (a.1 = 0 → l.length ≤ 500 ∧ Fits l 0)) := by
  simp only [telemetry_CheckParameters.f_eq, perigeeref7_CheckParameters.f_eq, decide_eq_true_eq]
  repeat' (first | (exfalso; omega) | (refine Twin.ifL (fun h_ => ?_) (fun h_ => ?_)) | (refine Twin.ifR (fun h_ => ?_) (fun h_ => ?_)))
  ·exact Twin.now ⟨rfl, fun h => absurd h (by decide)⟩
  ·exact Twin.mono (params_loop l (by omega) h.2.2 l.length 0 (by omega)) fun a b ⟨h1, h2⟩ => ⟨h1, fun h => ⟨by omega, h2 h⟩⟩
 obtain ⟨a, b, h1, h2, rfl, h3⟩ := this
 exact ⟨a.1, h1, h2, h3⟩
end Go.Proofs.Ytcefbdknoelacaa.Pure

-- YtcefbdknoelacaaQ2
set_option linter.unusedVariables false
set_option linter.unusedSimpArgs false
namespace Go.Proofs.Ytcefbdknoelacaa.Pure
open Go Go.Proofs.Ytcefbdknoelacaa.A

theorem u64_in {x : Int} (h : 0 ≤ x) (h' : x < 18446744073709551616) : IntKind.wrap .u64 x = x := by
 have e1 : (2 : Int) ^ 64 = 18446744073709551616 := rfl
 simp only [IntKind.wrap, IntKind.bits, IntKind.signed, e1, Bool.false_and]
 simp
 omega
theorem shr_half (x : Int) : shrI .u64 x 1 = x / 2 := by
 unfold shrI
 exact Int.fdiv_eq_ediv_of_nonneg _ (by decide)

abbrev nameOf (l : List DParameter) (j : Nat) : List UInt8 := (l.getD j (Ty.dflt YParameter)).1
theorem sorted {l : List DParameter} (h : Fits l 0) : ∀ (b a : Nat), a < b → b < l.length → lessS (nameOf l a) (nameOf l b) = true := by
 intro b
 induction b with
 | zero => intro a h1; omega
 | succ b ih =>
  intro a h1 h2
  have h3 := (h (b + 1) (by omega) h2).2 (by omega)
  rw [show (((b + 1 : Nat) : Int) - 1).toNat = b by omega] at h3
  rcases Nat.lt_or_ge a b with h4 | h4
  ·exact less_trans (ih a h4 (by omega)) h3
  ·obtain rfl : a = b := by omega
   exact h3
structure Place (l : List DParameter) (t : List UInt8) (p : Nat) : Prop where
 le : p ≤ l.length
 low : ∀ j, j < p → lessS (nameOf l j) t = true
 high : ∀ j, p ≤ j → j < l.length → ¬ lessS (nameOf l j) t = true
theorem search_loop (l : List DParameter) (hl : l.length ≤ 500) (hf : Fits l 0) (t : List UInt8) : ∀ (d i j : Nat), j = i + d → j ≤ l.length → (∀ m, m < i → lessS (nameOf l m) t = true) → (∀ m, j ≤ m → m < l.length → ¬ lessS (nameOf l m) t = true) →
 ∃ p, Place l t p ∧ Ev (fun k => slices_BinarySearchFunc_string.c0 k l t (l.length : Int) i j) ((p : Int), decide (p < l.length ∧ nameOf l p = t), ()) := by
 intro d
 induction d using Nat.strongRecOn with
 | _ d ih =>
  intro i j hj hjl hlow hhigh
  rcases Nat.eq_zero_or_pos d with h0 | h0
  ·subst h0
   have hij : j = i := by omega
   subst hij
   refine ⟨j, ⟨hjl, hlow, hhigh⟩, ?_⟩
   refine Ev.step (fun k => by rw [slices_BinarySearchFunc_string.c0_eq]) ?_
   simp only [decide_eq_true_eq, telemetry_parameter_1.f_eq, Option.bind_some]
   refine Ev.no (by omega) ?_
   by_cases h1 : (j : Int) < (l.length : Int)
   ·refine Ev.yes h1 (Ev.yes (by omega) (Ev.is ?_))
    rw [Int.toNat_natCast]
    have h2 := hhigh j (Nat.le_refl _) (by omega)
    unfold cmpS
    rw [if_neg h2]
    show ((j : Int), decide _, ()) = ((j : Int), decide (j < l.length ∧ (l.getD j (Ty.dflt YParameter)).1 = t), ())
    by_cases h4 : (l.getD j (Ty.dflt YParameter)).1 = t
    ·rw [h4, show lessS t t = false from less_irrefl t, decide_eq_true (p := j < l.length ∧ t = t) ⟨by omega, rfl⟩]
     rfl
    ·have h6 : lessS t (l.getD j (Ty.dflt YParameter)).1 = true := less_tri h2 h4
     rw [if_pos h6]
     rw [decide_eq_false (p := j < l.length ∧ (l.getD j (Ty.dflt YParameter)).1 = t) (fun h => h4 h.2)]
     rfl
   ·refine Ev.no h1 (Ev.is ?_)
    rw [decide_eq_false (p := j < l.length ∧ nameOf l j = t) (by omega)]
  ·have hm : ∃ m : Nat, IntKind.wrap .i64 (shrI .u64 (IntKind.wrap .u64 (IntKind.wrap .i64 ((i : Int) + (j : Int)))) 1) = (m : Int) ∧ m = (i + j) / 2 := by
    refine ⟨(i + j) / 2, ?_, rfl⟩
    rw [w64 (x := (i : Int) + (j : Int)) (by omega) (by omega), u64_in (by omega) (by omega), shr_half, w64 (by omega) (by omega)]
    omega
   obtain ⟨m, hm, hm2⟩ := hm
   have hmi : i ≤ m ∧ m < j := by omega
   rcases Classical.em (lessS (nameOf l m) t = true) with h1 | h1
   ·obtain ⟨p, hp, hev⟩ := ih (j - (m + 1)) (by omega) (m + 1) j (by omega) hjl (fun a ha => by
     rcases Nat.lt_or_ge a m with h2 | h2
     ·exact less_trans (sorted hf m a h2 (by omega)) h1
     ·obtain rfl : a = m := by omega
      exact h1) hhigh
    refine ⟨p, hp, ?_⟩
    refine Ev.step (fun k => by rw [slices_BinarySearchFunc_string.c0_eq]) ?_
    rw [hm, w64 (x := (m : Int) + 1) (by omega) (by omega)]
    simp only [decide_eq_true_eq, telemetry_parameter_1.f_eq, Option.bind_some, Int.toNat_natCast, cmpS]
    refine Ev.yes (by omega) (Ev.yes (by omega) (Ev.yes ?_ hev))
    rw [if_pos h1]; decide
   ·obtain ⟨p, hp, hev⟩ := ih (m - i) (by omega) i m (by omega) (by omega) hlow (fun a ha hb => by
     rcases Nat.lt_or_ge m a with h2 | h2
     ·intro h3
      exact h1 (less_trans (sorted hf a m h2 hb) h3)
     ·obtain rfl : a = m := by omega
      exact h1)
    refine ⟨p, hp, ?_⟩
    refine Ev.step (fun k => by rw [slices_BinarySearchFunc_string.c0_eq]) ?_
    rw [hm]
    simp only [decide_eq_true_eq, telemetry_parameter_1.f_eq, Option.bind_some, Int.toNat_natCast, cmpS]
    refine Ev.yes (by omega) (Ev.yes (by omega) (Ev.no ?_ hev))
    rw [if_neg h1]; split <;> omega

def findP (l : List DParameter) (t : List UInt8) : Option DParameter := l.find? fun p => decide (p.1 = t)
def fnd : Option DParameter → DParameter × Bool × Unit
 | some p => (p, true, ())
 | none => (([], (0, (false, ([], [])))), false, ())
theorem findP_some {l : List DParameter} {t : List UInt8} {p : DParameter} (h : findP l t = some p) : p ∈ l ∧ p.1 = t :=
 ⟨List.mem_of_find?_eq_some h, by simpa using List.find?_some h⟩
theorem findP_none {l : List DParameter} {t : List UInt8} (h : findP l t = none) : ∀ p ∈ l, p.1 ≠ t := by
 intro p hp e
 have := List.find?_eq_none.1 h p hp
 simp [e] at this
theorem inj_name {l : List DParameter} (hf : Fits l 0) {p q : DParameter} (hp : p ∈ l) (hq : q ∈ l) (h : p.1 = q.1) : p = q := by
 obtain ⟨i, hi, rfl⟩ := List.getElem_of_mem hp
 obtain ⟨j, hj, rfl⟩ := List.getElem_of_mem hq
 have no : ∀ a b : Nat, (ha : a < l.length) → (hb : b < l.length) → a < b → l[a].1 ≠ l[b].1 := by
  intro a b ha hb hab
  have := sorted hf b a hab hb
  unfold nameOf at this
  rw [getD_nat _ _ _ ha, getD_nat _ _ _ hb] at this
  exact less_ne this
 rcases Nat.lt_trichotomy i j with h1 | h1 | h1
 ·exact absurd h (no i j hi hj h1)
 ·subst h1; rfl
 ·exact absurd h.symm (no j i hj hi h1)
theorem findP_of {l : List DParameter} (hf : Fits l 0) {p : DParameter} (hp : p ∈ l) : findP l p.1 = some p := by
 cases h : findP l p.1 with
 | none => exact absurd rfl (findP_none h p hp)
 | some q => obtain ⟨h1, h2⟩ := findP_some h; rw [inj_name hf h1 hp h2]
theorem mem_fit {l : List DParameter} (hf : Fits l 0) {p : DParameter} (hp : p ∈ l) : Fit p := by
 obtain ⟨i, hi, rfl⟩ := List.getElem_of_mem hp
 have := (hf i (by omega) hi).1
 rw [getD_nat _ _ _ hi] at this
 exact this
theorem parameter_ev (l : List DParameter) (hl : l.length ≤ 500) (hf : Fits l 0) (t : List UInt8) : Ev (fun k => telemetry_parameter.f k l t) (fnd (findP l t)) := by
 obtain ⟨p, hp, hev⟩ := search_loop l hl hf t l.length 0 l.length (by omega) (by omega) (fun m h => by omega) (fun m h h' => by omega)
 refine Ev.eq (fun k => by rw [telemetry_parameter.f_eq, slices_BinarySearchFunc_string.f_eq]) ?_
 refine Ev.bind hev ?_
 by_cases h : p < l.length ∧ nameOf l p = t
 ·have : findP l t = some (l.getD p (Ty.dflt YParameter)) := by
   rw [← h.2]; exact findP_of hf (getD_mem h.1)
  rw [this]
  simp only [decide_eq_true h]
  refine Ev.no (by simp) (Ev.yes (by omega) ?_)
  rw [Int.toNat_natCast]
  exact Ev.now _
 ·have : findP l t = none := by
   cases e : findP l t with
   | none => rfl
   | some q =>
    exfalso
    obtain ⟨h1, h2⟩ := findP_some e
    obtain ⟨i, hi, rfl⟩ := List.getElem_of_mem h1
    have e1 : nameOf l i = t := by unfold nameOf; rw [getD_nat _ _ _ hi]; exact h2
    rcases Nat.lt_trichotomy i p with h3 | h3 | h3
    ·exact less_ne (hp.low i h3) e1
    ·subst h3; exact h ⟨hi, e1⟩
    ·have := sorted hf i p h3 hi
     rw [e1] at this
     exact hp.high p (Nat.le_refl _) (by omega) this
  rw [this]
  simp only [decide_eq_false h]
  exact Ev.yes (by simp) (Ev.now _)
theorem find_ev (l : List DParameter) (hl : l.length ≤ 4611686018427387904) (t : List UInt8) : Ev (fun k => perigeeref7_find.f k l t) (fnd (findP l t)) := by
 have loop : ∀ (d i : Nat), i + d = l.length → Ev (fun k => perigeeref7_find.c0 k t [] 0 false [] [] l (l.length : Int) i) (fnd (findP (l.drop i) t)) := by
  intro d
  induction d with
  | zero =>
   intro i hi
   refine Ev.step (fun k => by rw [perigeeref7_find.c0_eq]) ?_
   simp only [decide_eq_true_eq]
   refine Ev.no (by omega) ?_
   rw [List.drop_of_length_le (by omega)]
   exact Ev.now _
  | succ d ih =>
   intro i hi
   have next := ih (i + 1) (by omega)
   refine Ev.step (fun k => by rw [perigeeref7_find.c0_eq]) ?_
   rw [w64 (x := (i : Int) + 1) (by omega) (by omega), List.drop_eq_getElem_cons (show i < l.length by omega)]
   simp only [decide_eq_true_eq, Int.toNat_natCast, getD_nat (Ty.dflt YParameter) l i (by omega)]
   refine Ev.yes (by omega) (Ev.yes (by omega) (Ev.split (fun h => ?_) (fun h => ?_)))
   ·unfold findP
    rw [List.find?_cons_of_pos (by simpa using h)]
    exact Ev.now _
   ·unfold findP
    rw [List.find?_cons_of_neg (by simpa using h)]
    exact next
 refine Ev.eq (fun k => by rw [perigeeref7_find.f_eq]) ?_
 exact loop l.length 0 (by omega)

def findL (l : List DLayout) (t : List UInt8) : Option DLayout := l.find? fun p => decide (p.1 = t)
def fndL : Option DLayout → DLayout × Bool × Unit
 | some p => (p, true, ())
 | none => (([], []), false, ())
theorem layout_ev (l : List DLayout) (hl : l.length ≤ 4611686018427387904) (t : List UInt8) : Ev (fun k => telemetry_layout.f k l t) (fndL (findL l t)) := by
 have loop : ∀ (d i : Nat), i + d = l.length → Ev (fun k => telemetry_layout.c0 k t [] [] l (l.length : Int) i) (fndL (findL (l.drop i) t)) := by
  intro d
  induction d with
  | zero =>
   intro i hi
   refine Ev.step (fun k => by rw [telemetry_layout.c0_eq]) ?_
   simp only [decide_eq_true_eq]
   refine Ev.no (by omega) ?_
   rw [List.drop_of_length_le (by omega)]
   exact Ev.now _
  | succ d ih =>
   intro i hi
   have next := ih (i + 1) (by omega)
   refine Ev.step (fun k => by rw [telemetry_layout.c0_eq]) ?_
   rw [w64 (x := (i : Int) + 1) (by omega) (by omega), List.drop_eq_getElem_cons (show i < l.length by omega)]
   simp only [decide_eq_true_eq, Int.toNat_natCast, getD_nat (Ty.dflt YLayout) l i (by omega)]
   refine Ev.yes (by omega) (Ev.yes (by omega) (Ev.split (fun h => ?_) (fun h => ?_)))
   ·unfold findL
    rw [List.find?_cons_of_pos (by simpa using h)]
    exact Ev.now _
   ·unfold findL
    rw [List.find?_cons_of_neg (by simpa using h)]
    exact next
 refine Ev.eq (fun k => by rw [telemetry_layout.f_eq]) ?_
 exact loop l.length 0 (by omega)
theorem findL_some {l : List DLayout} {t : List UInt8} {p : DLayout} (h : findL l t = some p) : p ∈ l ∧ p.1 = t :=
 ⟨List.mem_of_find?_eq_some h, by simpa using List.find?_some h⟩
end Go.Proofs.Ytcefbdknoelacaa.Pure

-- YtcefbdknoelacaaBt
set_option linter.unusedVariables false
set_option linter.unusedSimpArgs false
namespace Go.Proofs.Ytcefbdknoelacaa.Pure
open Go Go.Proofs.Ytcefbdknoelacaa.A

theorem wrap_u8 {x : Int} (h : 0 ≤ x) (h' : x < 256) : IntKind.wrap .u8 x = x := by
 have e1 : (2 : Int) ^ 8 = 256 := rfl
 simp only [IntKind.wrap, IntKind.bits, IntKind.signed, e1, Bool.false_and]
 simp
 omega
theorem and_bit (x : Int) : bitsOp .i64 .and x 1 = x % 2 := by
 have e0 : (BitVec.ofInt 64 x &&& BitVec.ofInt 64 1).toNat = (x % 2).toNat := by
  have e1 : (BitVec.ofInt 64 1).toNat = 1 := by decide
  rw [BitVec.toNat_and, e1, Nat.and_one_is_mod, BitVec.toNat_ofInt]
  have : ((2 ^ 64 : Nat) : Int) = 18446744073709551616 := rfl
  rw [this]
  omega
 show IntKind.wrap .i64 ((BitVec.ofInt 64 x &&& BitVec.ofInt 64 1).toNat : Nat) = x % 2
 rw [e0, w64 (by omega) (by omega)]
 omega
theorem and_bit8 (n : Nat) (h : n < 256) : bitsOp .u8 .and (n : Int) 1 = ((n % 2 : Nat) : Int) := by
 have e0 : (BitVec.ofInt 8 (n : Int) &&& BitVec.ofInt 8 1).toNat = n % 2 := by
  have e1 : (BitVec.ofInt 8 1).toNat = 1 := by decide
  rw [BitVec.toNat_and, e1, Nat.and_one_is_mod, BitVec.toNat_ofInt]
  have : ((2 ^ 8 : Nat) : Int) = 256 := rfl
  rw [this]
  omega
 show IntKind.wrap .u8 ((BitVec.ofInt 8 (n : Int) &&& BitVec.ofInt 8 1).toNat : Nat) = ((n % 2 : Nat) : Int)
 rw [e0, wrap_u8 (by omega) (by omega)]
theorem or8 (a b : Nat) (ha : a < 256) (hb : b < 256) : bitsOp .u8 .or (a : Int) (b : Int) = ((a ||| b : Nat) : Int) := by
 have e0 : (BitVec.ofInt 8 (a : Int) ||| BitVec.ofInt 8 (b : Int)).toNat = a ||| b := by
  have : ((2 ^ 8 : Nat) : Int) = 256 := rfl
  rw [BitVec.toNat_or, BitVec.toNat_ofInt, BitVec.toNat_ofInt, this]
  rw [show ((a : Int) % 256).toNat = a by omega, show ((b : Int) % 256).toNat = b by omega]
 have h1 : a ||| b < 2 ^ 8 := Nat.or_lt_two_pow (by omega) (by omega)
 show IntKind.wrap .u8 ((BitVec.ofInt 8 (a : Int) ||| BitVec.ofInt 8 (b : Int)).toNat : Nat) = ((a ||| b : Nat) : Int)
 rw [e0, wrap_u8 (by omega) (by omega)]
theorem shr8 (n k : Nat) (h : n < 256) (hk : k ≤ 8) : shrI .u8 (n : Int) (k : Int) = ((n >>> k : Nat) : Int) := by
 unfold shrI
 rw [Int.toNat_natCast, show IntKind.bits .u8 = 8 from rfl, Nat.min_eq_left hk, Nat.shiftRight_eq_div_pow, Int.natCast_ediv, Int.natCast_pow]
 exact Int.fdiv_eq_ediv_of_nonneg _ (by have : (0 : Int) < 2 ^ k := Int.pow_pos (by omega); omega)
theorem shr64 (x : Int) (k : Nat) (hk : k ≤ 64) : shrI .i64 x (k : Int) = x / 2 ^ k := by
 unfold shrI
 rw [Int.toNat_natCast, show IntKind.bits .i64 = 64 from rfl, Nat.min_eq_left hk]
 exact Int.fdiv_eq_ediv_of_nonneg _ (by have : (0 : Int) < 2 ^ k := Int.pow_pos (by omega); omega)
theorem shl8 (n k : Nat) (hn : n ≤ 1) (hk : k ≤ 7) : shlI .u8 (n : Int) (k : Int) = ((n <<< k : Nat) : Int) := by
 have : ∀ (n : Fin 2) (k : Fin 8), shlI .u8 ((n.val : Nat) : Int) ((k.val : Nat) : Int) = ((n.val <<< k.val : Nat) : Int) := by decide +kernel
 exact this ⟨n, by omega⟩ ⟨k, by omega⟩
theorem shr128 (k : Nat) (hk : k ≤ 7) : shrI .u8 128 (k : Int) = ((1 <<< (7 - k) : Nat) : Int) := by
 have : ∀ (k : Fin 8), shrI .u8 128 ((k.val : Nat) : Int) = ((1 <<< (7 - k.val) : Nat) : Int) := by decide +kernel
 exact this ⟨k, by omega⟩

def bitAt (b : List Int) (i : Nat) : Bool := (b.getD (i / 8) 0).toNat.testBit (7 - i % 8)
def Bytes (b : List Int) : Prop := ∀ x ∈ b, 0 ≤ x ∧ x < 256
theorem Bytes.at {b : List Int} (h : Bytes b) (i : Nat) : 0 ≤ b.getD i 0 ∧ b.getD i 0 < 256 := by
 rcases Nat.lt_or_ge i b.length with hi | hi
 ·exact h _ (getD_mem hi)
 ·rw [List.getD_eq_getElem?_getD, List.getElem?_eq_none hi]; simp
theorem bitAt_out {b : List Int} {i : Nat} (h : 8 * b.length ≤ i) : bitAt b i = false := by
 unfold bitAt
 rw [List.getD_eq_getElem?_getD, List.getElem?_eq_none (by omega)]
 simp
theorem bytes_ext {b c : List Int} (hb : Bytes b) (hc : Bytes c) (hl : b.length = c.length) (h : ∀ i, i < 8 * b.length → bitAt b i = bitAt c i) : b = c := by
 refine List.ext_getElem hl fun j h1 h2 => ?_
 have b1 := hb.at j
 have c1 := hc.at j
 have e1 : b.getD j 0 = b[j] := getD_nat 0 b j h1
 have e2 : c.getD j 0 = c[j] := getD_nat 0 c j h2
 have : (b.getD j 0).toNat = (c.getD j 0).toNat := by
  refine Nat.eq_of_testBit_eq fun t => ?_
  rcases Nat.lt_or_ge t 8 with ht | ht
  ·have := h (8 * j + (7 - t)) (by omega)
   unfold bitAt at this
   rw [show (8 * j + (7 - t)) / 8 = j by omega, show 7 - (8 * j + (7 - t)) % 8 = t by omega] at this
   exact this
  ·have p : (256 : Nat) ≤ 2 ^ t := Nat.pow_le_pow_right (n := 2) (by omega) ht
   rw [Nat.testBit_lt_two_pow (by omega), Nat.testBit_lt_two_pow (by omega)]
 omega
structure Pack (b : List Int) (L : List Bool) : Prop where
 by_ : Bytes b
 len : b.length = (L.length + 7) / 8
 bit : ∀ i, bitAt b i = L.getD i false
theorem Pack.unique {b c : List Int} {L : List Bool} (h : Pack b L) (h' : Pack c L) : b = c :=
 bytes_ext h.by_ h'.by_ (h.len.trans h'.len.symm) fun i _ => (h.bit i).trans (h'.bit i).symm
theorem Pack.nil : Pack [] [] := ⟨fun x h => by simp at h, rfl, fun i => by simp [bitAt]⟩
def putAt (b : List Int) (i : Nat) (x : Nat) : List Int := b.set (i / 8) ((((b.getD (i / 8) 0).toNat ||| (x <<< (7 - i % 8))) : Nat) : Int)
theorem one_shl_testBit (k t : Nat) : (1 <<< k).testBit t = decide (k = t) := by
 rw [Nat.one_shiftLeft]; exact Nat.testBit_two_pow
theorem bitAt_put {b : List Int} (hb : Bytes b) (i : Nat) (hi : i < 8 * b.length) (x : Nat) (hx : x ≤ 1) (j : Nat) : bitAt (putAt b i x) j = (bitAt b j || (decide (j = i) && decide (x = 1))) := by
 unfold bitAt putAt
 rw [List.getD_eq_getElem?_getD, List.getElem?_set]
 by_cases h1 : i / 8 = j / 8
 ·rw [if_pos h1, if_pos (by omega)]
  simp only [Option.getD_some, Int.toNat_natCast, Nat.testBit_or, ← h1]
  congr 1
  rcases (show x = 0 ∨ x = 1 by omega) with rfl | rfl
  ·simp
  ·rw [one_shl_testBit]
   simp only [decide_true, Bool.and_true]
   exact decide_eq_decide.2 ⟨fun h => by omega, fun h => by omega⟩
 ·rw [if_neg h1, ← List.getD_eq_getElem?_getD]
  have : ¬ j = i := fun h => h1 (by rw [h])
  simp [this]
theorem bytes_put {b : List Int} (hb : Bytes b) (i : Nat) (x : Nat) (hx : x ≤ 1) : Bytes (putAt b i x) := by
 intro y hy
 unfold putAt at hy
 rcases List.mem_or_eq_of_mem_set hy with h | h
 ·exact hb y h
 ·have := hb.at (i / 8)
  have h1 : (b.getD (i / 8) 0).toNat ||| (x <<< (7 - i % 8)) < 2 ^ 8 := by
   refine Nat.or_lt_two_pow (by omega) ?_
   rw [Nat.shiftLeft_eq]
   have : 2 ^ (7 - i % 8) ≤ 2 ^ 7 := Nat.pow_le_pow_right (by omega) (by omega)
   have : x * 2 ^ (7 - i % 8) ≤ 1 * 2 ^ (7 - i % 8) := Nat.mul_le_mul_right _ hx
   omega
  rw [h]
  omega
theorem putAt_length (b : List Int) (i x : Nat) : (putAt b i x).length = b.length := by simp [putAt]
theorem Pack.push {b : List Int} {L : List Bool} (h : Pack b L) (x : Nat) (hx : x ≤ 1) : Pack (putAt (if L.length % 8 = 0 then b ++ [0] else b) L.length x) (L ++ [decide (x = 1)]) := by
 have hb2 : Bytes (if L.length % 8 = 0 then b ++ [0] else b) := by
  split
  ·intro y hy
   rcases List.mem_append.1 hy with hy | hy
   ·exact h.by_ y hy
   ·simp at hy; omega
  ·exact h.by_
 have hl2 : (if L.length % 8 = 0 then b ++ [0] else b).length = (L.length + 8) / 8 := by
  have := h.len
  split
  ·simp only [List.length_append, List.length_cons, List.length_nil]; omega
  ·omega
 have hbit : ∀ j, bitAt (if L.length % 8 = 0 then b ++ [0] else b) j = bitAt b j := by
  intro j
  split
  ·unfold bitAt
   congr 2
   rw [List.getD_eq_getElem?_getD, List.getD_eq_getElem?_getD]
   rcases Nat.lt_trichotomy (j / 8) b.length with h1 | h1 | h1
   ·rw [List.getElem?_append_left h1]
   ·rw [List.getElem?_append_right (by omega), h1, Nat.sub_self, List.getElem?_eq_none (Nat.le_refl _)]; rfl
   ·rw [List.getElem?_eq_none (by simp; omega), List.getElem?_eq_none (by omega)]
  ·rfl
 refine ⟨bytes_put hb2 _ x hx, ?_, fun i => ?_⟩
 ·rw [putAt_length, hl2, List.length_append, List.length_cons, List.length_nil]
 ·rw [bitAt_put hb2 _ (by rw [hl2]; omega) x hx, hbit, h.bit]
  rw [List.getD_eq_getElem?_getD, List.getD_eq_getElem?_getD, List.getElem?_append]
  rcases Nat.lt_trichotomy i L.length with h1 | h1 | h1
  ·rw [if_pos h1]
   have : ¬ i = L.length := by omega
   simp [this]
  ·subst h1
   simp
  ·rw [if_neg (by omega), List.getElem?_eq_none (by omega), List.getElem?_eq_none (by simp; omega)]
   have : ¬ i = L.length := by omega
   simp [this]

def nbits (n : Int) : Nat → List Bool
 | 0 => []
 | k + 1 => decide (n / 2 ^ k % 2 = 1) :: nbits n k
def num : Int → List Bool → Int
 | a, [] => a
 | a, b :: L => num (2 * a + (if b = true then 1 else 0)) L
theorem nbits_length (n : Int) : ∀ k, (nbits n k).length = k
 | 0 => rfl
 | k + 1 => by simp [nbits, nbits_length n k]
theorem num_acc : ∀ (L : List Bool) (a : Int), num a L = a * 2 ^ L.length + num 0 L
 | [], a => by simp [num]
 | b :: L, a => by
  rw [num, num, num_acc L (2 * a + _), num_acc L (2 * 0 + _), List.length_cons, Int.pow_succ]
  have : (2 * a + (if b = true then 1 else 0)) * 2 ^ L.length = a * (2 ^ L.length * 2) + (2 * 0 + (if b = true then 1 else 0)) * 2 ^ L.length := by
   rw [Int.add_mul, Int.mul_comm 2 a, Int.mul_assoc, Int.mul_comm 2 (2 ^ L.length)]
   simp
  omega
theorem num_bd : ∀ (L : List Bool), 0 ≤ num 0 L ∧ num 0 L < 2 ^ L.length
 | [] => by simp [num]
 | b :: L => by
  rw [num, num_acc, List.length_cons, Int.pow_succ]
  have := num_bd L
  cases b <;> simp <;> omega
end Go.Proofs.Ytcefbdknoelacaa.Pure

-- YtcefbdknoelacaaLp
set_option linter.unusedVariables false
set_option linter.unusedSimpArgs false
namespace Go.Proofs.Ytcefbdknoelacaa.Pure
open Go Go.Proofs.Ytcefbdknoelacaa.A

theorem Ev.rng {α β σ : Type} (z : α) (l : List α) (hl : l.length ≤ 4611686018427387904) {g : Nat → σ → Int → Option β} {B : Nat → σ → Int → Option β} {E : Nat → σ → Option β}
 (hg : ∀ k s i, g (k + 1) s i = if decide (i < (l.length : Int)) = true then (if (0 : Int) ≤ i ∧ i < (l.length : Int) then B k s i else none) else E k s)
 (Inv : Nat → σ → Prop) (spec : List α → Nat → σ → β)
 (hfin : ∀ s, Inv l.length s → Ev (fun k => E k s) (spec [] l.length s))
 (hstep : ∀ (i : Nat) (x : α) (xs : List α) (s : σ), i < l.length → x ∈ l → l.drop i = x :: xs → l.getD i z = x → IntKind.wrap .i64 ((i : Int) + 1) = (i : Int) + 1 → Inv i s →
  (∀ s', Inv (i + 1) s' → Ev (fun k => g k s' ((i : Int) + 1)) (spec xs (i + 1) s')) → Ev (fun k => B k s i) (spec (x :: xs) i s)) :
 ∀ (i : Nat) (s : σ), i ≤ l.length → Inv i s → Ev (fun k => g k s i) (spec (l.drop i) i s) := by
 have loop : ∀ (d i : Nat) (s : σ), i + d = l.length → Inv i s → Ev (fun k => g k s i) (spec (l.drop i) i s) := by
  intro d
  induction d with
  | zero =>
   intro i s hi hs
   have : i = l.length := by omega
   subst this
   refine Ev.step (fun k => hg k s _) ?_
   refine Ev.no (by simp) ?_
   rw [List.drop_length]
   exact hfin s hs
  | succ d ih =>
   intro i s hi hs
   refine Ev.step (fun k => hg k s _) ?_
   refine Ev.yes (by simp; omega) (Ev.yes (by omega) ?_)
   rw [List.drop_eq_getElem_cons (show i < l.length by omega)]
   refine hstep i _ _ s (by omega) (List.getElem_mem _) (List.drop_eq_getElem_cons (by omega)) (getD_nat z l i (by omega)) (w64 (by omega) (by omega)) hs fun s' hs' => ?_
   have := ih (i + 1) s' (by omega) hs'
   rw [show ((i + 1 : Nat) : Int) = (i : Int) + 1 by omega] at this
   exact this
 exact fun i s hi hs => loop (l.length - i) i s (by omega) hs
theorem Ev.rngR {α β σ : Type} (z : α) (l : List α) (hl : l.length ≤ 4611686018427387904) {g : Nat → σ → Int → Option β} {B : Nat → σ → Int → Option β} {E : Nat → σ → Option β}
 (hg : ∀ k s i, g (k + 1) s i = if decide (i < (l.length : Int)) = true then (if (0 : Int) ≤ i ∧ i < (l.length : Int) then B k s i else none) else E k s)
 (Inv : Nat → σ → Prop) (Q : β → Prop)
 (hfin : ∀ s, Inv l.length s → ∃ r, Ev (fun k => E k s) r ∧ Q r)
 (hstep : ∀ (i : Nat) (x : α) (s : σ), i < l.length → x ∈ l → l[i]? = Option.some x → l.getD i z = x → IntKind.wrap .i64 ((i : Int) + 1) = (i : Int) + 1 → Inv i s →
  (∀ s', Inv (i + 1) s' → ∃ r, Ev (fun k => g k s' ((i : Int) + 1)) r ∧ Q r) → ∃ r, Ev (fun k => B k s i) r ∧ Q r) :
 ∀ (i : Nat) (s : σ), i ≤ l.length → Inv i s → ∃ r, Ev (fun k => g k s i) r ∧ Q r := by
 have loop : ∀ (d i : Nat) (s : σ), i + d = l.length → Inv i s → ∃ r, Ev (fun k => g k s i) r ∧ Q r := by
  intro d
  induction d with
  | zero =>
   intro i s hi hs
   have : i = l.length := by omega
   subst this
   obtain ⟨r, h1, h2⟩ := hfin s hs
   exact ⟨r, Ev.step (fun k => hg k s _) (Ev.no (by simp) h1), h2⟩
  | succ d ih =>
   intro i s hi hs
   have hs' := hstep i l[i] s (by omega) (List.getElem_mem _) (List.getElem?_eq_getElem (by omega)) (getD_nat z l i (by omega)) (w64 (by omega) (by omega)) hs fun s' hs' => by
    have := ih (i + 1) s' (by omega) hs'
    rw [show ((i + 1 : Nat) : Int) = (i : Int) + 1 by omega] at this
    exact this
   obtain ⟨r, h1, h2⟩ := hs'
   exact ⟨r, Ev.step (fun k => hg k s _) (Ev.yes (by simp; omega) (Ev.yes (by omega) h1)), h2⟩
 exact fun i s hi hs => loop (l.length - i) i s (by omega) hs
theorem Ev.cast {α : Type} {g : Nat → Option α} {a b : α} (h : a = b) (e : Ev g a) : Ev g b := h ▸ e

theorem eqV_iff : ∀ {τ : Ty}, τ.eqB = true → ∀ {x y : τ.den}, eqV τ x y = true ↔ x = y := by
 intro τ
 induction τ with
 | pair a b iha ihb =>
  intro h x y
  simp only [Ty.eqB, Bool.and_eq_true] at h
  simp only [eqV, Bool.and_eq_true, iha h.1, ihb h.2]
  exact ⟨fun h => Prod.ext h.1 h.2, fun h => by rw [h]; exact ⟨rfl, rfl⟩⟩
 | bool => intro _ x y; exact decide_eq_true_iff
 | int k => intro _ x y; exact decide_eq_true_iff
 | str => intro _ x y; exact decide_eq_true_iff
 | unit => intro h; simp [Ty.eqB] at h
 | sl e _ => intro h; simp [Ty.eqB] at h
 | vec e _ => intro h; simp [Ty.eqB] at h
 | map k e _ _ => intro h; simp [Ty.eqB] at h
 | fnv f => intro h; simp [Ty.eqB] at h
 | nil => intro h; simp [Ty.eqB] at h
 | ptr e _ => intro h; simp [Ty.eqB] at h
theorem eq_loop {α : Type} (z : α) {e : α → α → Bool} (he : ∀ x y, e x y = true ↔ x = y) (a b : List α) (hl : a.length ≤ 4611686018427387904) (hab : a.length = b.length) {g : Nat → Int → Option (Bool × Unit)}
 (hg : ∀ k i, g (k + 1) i = if decide (i < (a.length : Int)) = true then (if (0 : Int) ≤ i ∧ i < (a.length : Int) then (if (0 : Int) ≤ i ∧ i < (b.length : Int) then (if (!(e (a.getD i.toNat z) (b.getD i.toNat z))) = true then some (false, ()) else g k (IntKind.wrap .i64 (i + 1))) else none) else none) else some (true, ())) :
 ∃ r, Ev (fun k => g k 0) (r, ()) ∧ (r = true ↔ a = b) := by
 classical
 have := Ev.rng (σ := Unit) z a hl (g := fun k _ i => g k i) (fun k s i => hg k i) (fun i _ => True)
  (fun r i _ => (decide (∀ j : Nat, i ≤ j → j < a.length → a.getD j z = b.getD j z), ())) (fun _ _ => Ev.is (by
   rw [decide_eq_true]
   intro j h1 h2; omega)) (fun i x xs _ hi hx _ hget hw _ next => by
   simp only [Int.toNat_natCast, hget, hw, Bool.not_eq_true']
   refine Ev.yes (by omega) (Ev.split (fun h => ?_) (fun h => ?_))
   ·refine Ev.is ?_
    rw [decide_eq_false]
    intro hh
    have := hh i (Nat.le_refl _) hi
    rw [hget] at this
    rw [(he _ _).2 this] at h
    cases h
   ·refine Ev.cast ?_ (next () trivial)
    have h : x = b.getD i z := (he _ _).1 (by simpa using h)
    refine congrArg (fun b => (b, ())) (decide_eq_decide.2 ⟨fun hh j h1 h2 => ?_, fun hh j h1 h2 => hh j (by omega) h2⟩)
    rcases Nat.lt_or_ge i j with h3 | h3
    ·exact hh j h3 h2
    ·obtain rfl : j = i := by omega
     rw [hget]; exact h) 0 () (by omega) trivial
 refine ⟨_, this, ?_⟩
 rw [decide_eq_true_iff]
 refine ⟨fun h => List.ext_getElem hab fun j h1 h2 => ?_, fun h => by rw [h]; exact fun _ _ _ => rfl⟩
 have := h j (by omega) h1
 rw [getD_nat z a j h1, getD_nat z b j h2] at this
 exact this
theorem idx_loop {α : Type} [DecidableEq α] (z : α) (v : α) {e : α → Bool} (he : ∀ x, e x = true ↔ v = x) (l : List α) (hl : l.length ≤ 4611686018427387904) {g : Nat → Int → Option (Int × Unit)}
 (hg : ∀ k i, g (k + 1) i = if decide (i < (l.length : Int)) = true then (if (0 : Int) ≤ i ∧ i < (l.length : Int) then (if e (l.getD i.toNat z) = true then some (i, ()) else g k (IntKind.wrap .i64 (i + 1))) else none) else some (-1, ())) :
 ∃ n, Ev (fun k => g k 0) (n, ()) ∧ (0 ≤ n ↔ v ∈ l) := by
 have h := Ev.rng (σ := Unit) z l hl (g := fun k _ i => g k i) (fun k s i => hg k i)
  (fun _ _ => True) (fun r i _ => (if v ∈ r then ((i + r.idxOf v : Nat) : Int) else -1, ())) (fun _ _ => Ev.is (by simp)) (fun i x xs s hi hx _ hget hw _ next => by
   simp only [Int.toNat_natCast, hget, hw]
   refine Ev.split (fun h => ?_) (fun h => ?_)
   ·have h := (he _).1 h
    subst h
    refine Ev.is ?_
    simp
   ·refine Ev.cast ?_ (next () trivial)
    have h' : ¬ v = x := fun e => h ((he _).2 e)
    have h'' : ¬ x = v := fun e => h' e.symm
    by_cases hm : v ∈ xs
    ·rw [if_pos hm, if_pos (by simp [hm]), List.idxOf_cons, show (x == v) = false by simpa using h'']
     simp only [cond_false]
     congr 1; omega
    ·rw [if_neg hm, if_neg (by simp [hm, h'])]) 0 () (by omega) trivial
 refine ⟨_, h, ?_⟩
 simp only [List.drop_zero]
 split <;> rename_i hm
 ·exact ⟨fun _ => hm, fun _ => by omega⟩
 ·exact ⟨fun h => by omega, fun h => absurd h hm⟩
theorem Ev.agree {α : Type} {p : Prop} {hd : Decidable p} {g f : Nat → Option α} {r : α} (e : Ev f r) (t : p → Ev g r) : Ev (fun k => agree2 (f k) (if p then g k else f k)) r := by
 have h2 : Ev (fun k => if p then g k else f k) r := Ev.split t (fun _ => e)
 obtain ⟨K, h1⟩ := e
 obtain ⟨K', h2⟩ := h2
 refine ⟨max K K', fun n hn => ?_⟩
 have a := h1 n (by omega)
 have b := h2 n (by omega)
 simp only at b
 show agree2 (f n) (if p then g n else f n) = _
 unfold agree2
 rw [a] at b ⊢
 rw [b, if_pos rfl]
end Go.Proofs.Ytcefbdknoelacaa.Pure

-- YtcefbdknoelacaaQ4
set_option linter.unusedVariables false
set_option linter.unusedSimpArgs false
namespace Go.Proofs.Ytcefbdknoelacaa.Pure
open Go Go.Proofs.Ytcefbdknoelacaa.A

theorem has_iff (s : List UInt8) : ∀ (m : List (List UInt8 × Bool)), (∀ p ∈ m, p.2 = true) → (mapGet .str .bool s m false = true ↔ s ∈ m.map (·.1))
 | [], _ => by simp [mapGet]
 | p :: m, h => by
  have ih := has_iff s m (fun q hq => h q (by simp [hq]))
  unfold mapGet
  by_cases e : p.1 = s
  ·have e2 : eqV .str p.1 s = true := decide_eq_true e
   rw [if_pos e2]
   simp [h p (by simp), e]
  ·have e2 : ¬ eqV .str p.1 s = true := fun hh => e (of_decide_eq_true hh)
   rw [if_neg e2, ih]
   have : ¬ s = p.1 := fun hh => e hh.symm
   simp [this]
theorem put_keys (s : List UInt8) : ∀ (m : List (List UInt8 × Bool)), (∀ p ∈ m, p.2 = true) → (∀ p ∈ mapPut .str .bool s true m, p.2 = true) ∧ (∀ t, t ∈ (mapPut .str .bool s true m).map (·.1) ↔ (t ∈ m.map (·.1) ∨ t = s))
 | [], _ => by simp [mapPut]
 | p :: m, h => by
  have ih := put_keys s m (fun q hq => h q (by simp [hq]))
  unfold mapPut
  by_cases e : p.1 = s
  ·have e2 : eqV .str p.1 s = true := decide_eq_true e
   rw [if_pos e2]
   refine ⟨fun q hq => ?_, fun t => ?_⟩
   ·rcases List.mem_cons.1 hq with rfl | hq
    ·rfl
    ·exact h q (by simp [hq])
   ·simp only [List.map_cons, List.mem_cons, e]
    exact ⟨fun h => h.elim .inr fun h => .inl (.inr h), fun h => h.elim (fun h => h) .inl⟩
  ·have e2 : ¬ eqV .str p.1 s = true := fun hh => e (of_decide_eq_true hh)
   rw [if_neg e2]
   refine ⟨fun q hq => ?_, fun t => ?_⟩
   ·rcases List.mem_cons.1 hq with rfl | hq
    ·exact h q (by simp)
    ·exact ih.1 q hq
   ·simp only [List.map_cons, List.mem_cons, ih.2 t]
    exact ⟨fun h => h.elim (fun h => .inl (.inl h)) fun h => h.elim (fun h => .inl (.inr h)) .inr, fun h => h.elim (fun h => h.elim .inl fun h => .inr (.inl h)) fun h => .inr (.inr h)⟩
def ckParts (p : List DParameter) : List (List UInt8) → List (List UInt8) → Int
 | [], _ => 0
 | s :: ss, seen => if findP p s = none then 9 else if s ∈ seen then 7 else ckParts p ss (seen ++ [s])
theorem ckParts_congr (p : List DParameter) : ∀ (ss a b : List (List UInt8)), (∀ t, t ∈ a ↔ t ∈ b) → ckParts p ss a = ckParts p ss b
 | [], _, _, _ => rfl
 | s :: ss, a, b, h => by
  unfold ckParts
  simp only [h s]
  rw [ckParts_congr p ss (a ++ [s]) (b ++ [s]) (fun t => by simp [h t])]
theorem ckParts_ok (p : List DParameter) : ∀ (ss a : List (List UInt8)), ckParts p ss a = 0 → (∀ s ∈ ss, ∃ y, findP p s = some y)
 | [], _, _ => by simp
 | s :: ss, a, h => by
  unfold ckParts at h
  by_cases h1 : findP p s = none
  ·rw [if_pos h1] at h; exact absurd h (by decide)
  ·rw [if_neg h1] at h
   by_cases h2 : s ∈ a
   ·rw [if_pos h2] at h; exact absurd h (by decide)
   ·rw [if_neg h2] at h
    have ih := ckParts_ok p ss _ h
    intro t ht
    rcases List.mem_cons.1 ht with rfl | ht
    ·cases e : findP p t with
     | none => exact absurd e h1
     | some y => exact ⟨y, rfl⟩
    ·exact ih t ht
theorem fnd_ok (o : Option DParameter) : ((fnd o).2.1 = false) = (o = none) := by cases o <;> simp [fnd]
theorem checkParts_ev (p : List DParameter) (hp : p.length ≤ 500) (hf : Fits p 0) (ss : List (List UInt8)) (hs : ss.length ≤ 4611686018427387904) :
 Ev (fun k => telemetry_checkParts.f k p ss) (if ss = [] then 9 else if 200 < ss.length then 2 else ckParts p ss [], ()) := by
 refine Ev.eq (fun k => by rw [telemetry_checkParts.f_eq]) ?_
 simp only [decide_eq_true_eq]
 refine Ev.split (fun h => ?_) (fun h => ?_)
 ·rw [if_pos (List.length_eq_zero_iff.1 (by omega))]; exact Ev.now _
 ·rw [if_neg (fun e => h (by rw [e]; rfl))]
  refine Ev.split (fun h2 => ?_) (fun h2 => ?_)
  ·rw [if_pos (by omega)]; exact Ev.now _
  ·rw [if_neg (by omega)]
   have := Ev.rng (σ := List (List UInt8 × Bool)) [] ss hs (g := fun k s i => telemetry_checkParts.c0 k p s ss (ss.length : Int) i) (fun k s i => telemetry_checkParts.c0_eq _ _ _ _ _ _)
    (fun _ m => ∀ q ∈ m, q.2 = true) (fun l _ m => (ckParts p l (m.map (·.1)), ())) (fun s _ => Ev.now _) (fun i x xs m hi hx _ hget hw hm next => by
     simp only [Int.toNat_natCast, hget, hw]
     refine Ev.bind (parameter_ev p hp hf x) ?_
     simp only [Bool.not_eq_true', fnd_ok]
     unfold ckParts
     refine Ev.split (fun h => ?_) (fun h => ?_)
     ·rw [if_pos h]; exact Ev.now _
     ·rw [if_neg h]
      refine Ev.split (fun h => ?_) (fun h => ?_)
      ·rw [if_pos ((has_iff x m hm).1 h)]; exact Ev.now _
      ·rw [if_neg (fun e => h ((has_iff x m hm).2 e))]
       have k := put_keys x m hm
       refine Ev.cast ?_ (next _ k.1)
       rw [ckParts_congr p xs _ (m.map (·.1) ++ [x]) (fun t => by rw [k.2 t]; simp)]) 0 [] (by omega) (by simp)
   exact this

theorem index_str (l : List (List UInt8)) (hl : l.length ≤ 4611686018427387904) (v : List UInt8) : ∃ n, Ev (fun k => slices_Index_string.f k l v) (n, ()) ∧ (0 ≤ n ↔ v ∈ l) := by
 have h := Ev.rng (σ := Unit) [] l hl (g := fun k s i => slices_Index_string.c0 k l v (l.length : Int) i) (fun k s i => slices_Index_string.c0_eq _ _ _ _ _)
  (fun _ _ => True) (fun r i _ => (if v ∈ r then ((i + r.idxOf v : Nat) : Int) else -1, ())) (fun _ _ => Ev.is (by simp)) (fun i x xs s hi hx _ hget hw _ next => by
   simp only [Int.toNat_natCast, hget, hw, decide_eq_true_eq]
   refine Ev.split (fun h => ?_) (fun h => ?_)
   ·subst h
    refine Ev.is ?_
    simp
   ·refine Ev.cast ?_ (next () trivial)
    have h' : ¬ x = v := fun e => h e.symm
    by_cases hm : v ∈ xs
    ·rw [if_pos hm, if_pos (by simp [hm]), List.idxOf_cons, show (x == v) = false by simpa using h']
     simp only [cond_false]
     congr 1; omega
    ·rw [if_neg hm, if_neg (by simp [hm, h])]) 0 () (by omega) trivial
 refine ⟨_, Ev.eq (fun k => by rw [slices_Index_string.f_eq]; rfl) h, ?_⟩
 simp only [List.drop_zero]
 split <;> rename_i hm
 ·exact ⟨fun _ => hm, fun _ => by omega⟩
 ·exact ⟨fun h => by omega, fun h => absurd h hm⟩
theorem contains_str (l : List (List UInt8)) (hl : l.length ≤ 4611686018427387904) (v : List UInt8) : Ev (fun k => slices_Contains_string.f k l v) (decide (v ∈ l), ()) := by
 obtain ⟨n, h1, h2⟩ := index_str l hl v
 refine Ev.eq (fun k => by rw [slices_Contains_string.f_eq]) (Ev.bind h1 (Ev.is ?_))
 simp only [h2]

def LOk (p : List DParameter) (x : DLayout) : Prop := x.2 ≠ [] ∧ x.2.length ≤ 200 ∧ ∀ s ∈ x.2, ∃ y, findP p s = some y
theorem refParts_loop (p : List DParameter) (hp : p.length ≤ 500) (hf : Fits p 0) (l : List DLayout) (ii : Int) (t7 : List UInt8) (ss : List (List UInt8)) (hs : ss.length ≤ 200) (l2 : List DLayout) (len t22 : Int) :
 ∀ (d i : Nat), i + d = ss.length → ∀ r, (ckParts p (ss.drop i) (ss.take i) = 0 → Ev (fun k => if 0 < ii then (if (0 : Int) ≤ IntKind.wrap .i64 (ii - 1) ∧ IntKind.wrap .i64 (ii - 1) < (l.length : Int) then (if (lessS (l.getD (IntKind.wrap .i64 (ii - 1)).toNat (Ty.dflt YLayout)).1 t7) = false then some (8, ()) else perigeeref7_CheckLayouts.c0 k p l l2 len (IntKind.wrap .i64 (t22 + 1))) else none) else perigeeref7_CheckLayouts.c0 k p l l2 len (IntKind.wrap .i64 (t22 + 1))) r) →
 (ckParts p (ss.drop i) (ss.take i) ≠ 0 → r = (ckParts p (ss.drop i) (ss.take i), ())) →
 Ev (fun k => perigeeref7_CheckLayouts.c1 k p l ii t7 ss l2 len t22 ss (ss.length : Int) i) r := by
 intro d
 induction d with
 | zero =>
  intro i hi r h0 h1
  refine Ev.step (fun k => by rw [perigeeref7_CheckLayouts.c1_eq]) ?_
  simp only [decide_eq_true_eq, Bool.not_eq_true']
  refine Ev.no (by omega) (h0 ?_)
  rw [List.drop_of_length_le (by omega)]
  rfl
 | succ d ih =>
  intro i hi r h0 h1
  have next := ih (i + 1) (by omega) r
  refine Ev.step (fun k => by rw [perigeeref7_CheckLayouts.c1_eq]) ?_
  have hd := List.drop_eq_getElem_cons (show i < ss.length by omega)
  have ht : ss.take (i + 1) = ss.take i ++ [ss[i]] := by rw [List.take_add_one, List.getElem?_eq_getElem (by omega)]; rfl
  rw [w64 (x := (i : Int) + 1) (by omega) (by omega)]
  simp only [decide_eq_true_eq, Bool.not_eq_true', Int.toNat_natCast, getD_nat [] ss i (by omega), List.drop_zero]
  refine Ev.yes (by omega) (Ev.yes (by omega) (Ev.bind (find_ev p (by omega) ss[i]) ?_))
  simp only [fnd_ok]
  rw [hd] at h0 h1
  unfold ckParts at h0 h1
  refine Ev.split (fun h => ?_) (fun h => ?_)
  ·rw [if_pos h] at h1
   rw [h1 (by decide)]
   exact Ev.now _
  ·rw [if_neg h] at h0 h1
   refine Ev.yes (by omega) (Ev.bind (contains_str _ (by simp; omega) _) ?_)
   simp only [decide_eq_true_eq]
   refine Ev.split (fun h => ?_) (fun h => ?_)
   ·rw [if_pos h] at h1
    rw [h1 (by decide)]
    exact Ev.now _
   ·rw [if_neg h] at h0 h1
    rw [ht] at next
    exact next h0 h1
theorem layouts_ev (p : List DParameter) (l : List DLayout) (h : okT (.sl YParameter) p) (h2 : okT (.sl YLayout) l) : ∃ c, Ev (fun k => telemetry_CheckLayouts.f k p l) (c, ()) ∧ Ev (fun k => perigeeref7_CheckLayouts.f k p l) (c, ()) ∧
 (c = 0 → (p.length ≤ 500 ∧ Fits p 0) ∧ l.length ≤ 100 ∧ ∀ x ∈ l, LOk p x) := by
 obtain ⟨c, c1, c2, c3⟩ := params_ev p h
 have : Twin (fun k => telemetry_CheckLayouts.f k p l) (fun k => perigeeref7_CheckLayouts.f k p l) (fun a b => a = b ∧ (a.1 = 0 → (p.length ≤ 500 ∧ Fits p 0) ∧ l.length ≤ 100 ∧ ∀ x ∈ l, LOk p x)) := by
  simp only [telemetry_CheckLayouts.f_eq, perigeeref7_CheckLayouts.f_eq, decide_eq_true_eq, Bool.not_eq_true', decide_eq_false_iff_not]
  refine Twin.bindL c1 (Twin.bindR c2 ?_)
  by_cases hc : c = 0
  ·subst hc
   obtain ⟨hp, hf⟩ := c3 rfl
   refine Twin.noL (fun h => h rfl) (Twin.noR (fun h => h rfl) ?_)
   refine Twin.ifL (fun h1 => Twin.yesR h1 (Twin.now ⟨rfl, fun h => absurd h (by decide)⟩)) (fun h1 => Twin.noR h1 ?_)
   have loop : ∀ (d i : Nat), i + d = l.length → Twin (fun k => telemetry_CheckLayouts.c0 k p l l (l.length : Int) i) (fun k => perigeeref7_CheckLayouts.c0 k p l l (l.length : Int) i) (fun a b => a = b ∧ (a.1 = 0 → ∀ x ∈ l.drop i, LOk p x)) := by
    intro d
    induction d with
    | zero =>
     intro i hi
     refine Twin.stepL (fun k => by rw [telemetry_CheckLayouts.c0_eq]) (Twin.stepR (fun k => by rw [perigeeref7_CheckLayouts.c0_eq]) ?_)
     simp only [decide_eq_true_eq]
     refine Twin.noL (by omega) (Twin.noR (by omega) (Twin.now ⟨rfl, fun _ x hx => ?_⟩))
     rw [List.drop_of_length_le (by omega)] at hx
     simp at hx
    | succ d ih =>
     intro i hi
     have next := ih (i + 1) (by omega)
     have hx : okT YLayout l[i] := h2.2.2 _ (List.getElem_mem _)
     have hs : l[i].2.length ≤ 140737488351232 := hx.2.1
     have hd := List.drop_eq_getElem_cons (show i < l.length by omega)
     refine Twin.stepL (fun k => by rw [telemetry_CheckLayouts.c0_eq]) (Twin.stepR (fun k => by rw [perigeeref7_CheckLayouts.c0_eq]) ?_)
     rw [w64 (x := (i : Int) + 1) (by omega) (by omega)]
     simp only [decide_eq_true_eq, Bool.not_eq_true', decide_eq_false_iff_not, Int.toNat_natCast, getD_nat (Ty.dflt YLayout) l i (by omega)]
     refine Twin.yesL (by omega) (Twin.yesR (by omega) (Twin.yesL (by omega) (Twin.yesR (by omega) ?_)))
     obtain ⟨b, e1, e2⟩ := word_ev l[i].1 hx.1
     refine Twin.bindL e1 (Twin.bindR e2 ?_)
     refine Twin.ifL (fun h3 => Twin.yesR h3 (Twin.now ⟨rfl, fun h => absurd h (by decide)⟩)) (fun h3 => Twin.noR h3 ?_)
     refine Twin.bindL (checkParts_ev p hp hf l[i].2 (by omega)) ?_
     by_cases g1 : l[i].2 = []
     ·rw [if_pos g1]
      exact Twin.yesL (show ¬ (9 : Int) = 0 by decide) (Twin.yesR (by rw [g1]; rfl) (Twin.now ⟨rfl, fun h => absurd h (by decide)⟩))
     ·have g1' : ¬ (l[i].2.length : Int) = 0 := fun e => g1 (List.length_eq_zero_iff.1 (by omega))
      rw [if_neg g1]
      refine Twin.noR g1' ?_
      by_cases g2 : 200 < l[i].2.length
      ·rw [if_pos g2]
       exact Twin.yesL (show ¬ (2 : Int) = 0 by decide) (Twin.yesR (by omega) (Twin.now ⟨rfl, fun h => absurd h (by decide)⟩))
      ·rw [if_neg g2]
       refine Twin.noR (by omega) ?_
       by_cases g3 : ckParts p l[i].2 [] = 0
       ·rw [g3]
        refine Twin.noL (fun h => h rfl) ?_
        have ok : LOk p l[i] := ⟨g1, by omega, ckParts_ok p _ _ g3⟩
        have fin : Twin (fun k => telemetry_CheckLayouts.c0 k p l l (l.length : Int) ((i : Int) + 1)) (fun k => perigeeref7_CheckLayouts.c0 k p l l (l.length : Int) ((i : Int) + 1)) (fun a b => a = b ∧ (a.1 = 0 → ∀ x ∈ l.drop i, LOk p x)) := by
         refine Twin.mono next fun a b ⟨h1, h2⟩ => ⟨h1, fun h x hx => ?_⟩
         rw [hd] at hx
         rcases List.mem_cons.1 hx with rfl | hx
         ·exact ok
         ·exact h2 h x hx
        have key : Twin (fun k => if 0 < (i : Int) then (if (0 : Int) ≤ IntKind.wrap .i64 ((i : Int) - 1) ∧ IntKind.wrap .i64 ((i : Int) - 1) < (l.length : Int) then (if lessS (l.getD (IntKind.wrap .i64 ((i : Int) - 1)).toNat (Ty.dflt YLayout)).1 l[i].1 = false then some (8, ()) else telemetry_CheckLayouts.c0 k p l l (l.length : Int) ((i : Int) + 1)) else none) else telemetry_CheckLayouts.c0 k p l l (l.length : Int) ((i : Int) + 1))
         (fun k => if 0 < (i : Int) then (if (0 : Int) ≤ IntKind.wrap .i64 ((i : Int) - 1) ∧ IntKind.wrap .i64 ((i : Int) - 1) < (l.length : Int) then (if lessS (l.getD (IntKind.wrap .i64 ((i : Int) - 1)).toNat (Ty.dflt YLayout)).1 l[i].1 = false then some (8, ()) else perigeeref7_CheckLayouts.c0 k p l l (l.length : Int) (IntKind.wrap .i64 ((i : Int) + 1))) else none) else perigeeref7_CheckLayouts.c0 k p l l (l.length : Int) (IntKind.wrap .i64 ((i : Int) + 1)))
         (fun a b => a = b ∧ (a.1 = 0 → ∀ x ∈ l.drop i, LOk p x)) := by
         rw [w64 (x := (i : Int) + 1) (by omega) (by omega), w64 (x := (i : Int) - 1) (by omega) (by omega)]
         refine Twin.ifL (fun h6 => Twin.yesR h6 (Twin.yesL (by omega) (Twin.yesR (by omega) ?_))) (fun h6 => Twin.noR h6 fin)
         exact Twin.ifL (fun h7 => Twin.yesR h7 (Twin.now ⟨rfl, fun h => absurd h (by decide)⟩)) (fun h7 => Twin.noR h7 fin)
        obtain ⟨a, b, k1, k2, k3⟩ := key
        exact ⟨a, b, k1, refParts_loop p hp hf l i l[i].1 l[i].2 (by omega) l l.length i l[i].2.length 0 (by omega) b (fun _ => k2) (fun h => absurd (by simpa using g3) h), k3⟩
       ·refine Twin.yesL g3 ⟨_, (ckParts p l[i].2 [], ()), Ev.now _, ?_, rfl, fun h => absurd h g3⟩
        exact refParts_loop p hp hf l i l[i].1 l[i].2 (by omega) l l.length i l[i].2.length 0 (by omega) _ (fun h => absurd (by simpa using h) g3) (fun _ => by simp)
   exact Twin.mono (loop l.length 0 (by omega)) fun a b ⟨h3, h4⟩ => ⟨h3, fun h => ⟨⟨hp, hf⟩, by omega, h4 h⟩⟩
  ·exact Twin.yesL hc (Twin.yesR hc (Twin.now ⟨rfl, fun h => absurd h hc⟩))
 obtain ⟨a, b, h1, h2, rfl, h3⟩ := this
 exact ⟨a.1, h1, h2, h3⟩
end Go.Proofs.Ytcefbdknoelacaa.Pure

-- YtcefbdknoelacaaQ5
set_option linter.unusedVariables false
set_option linter.unusedSimpArgs false
namespace Go.Proofs.Ytcefbdknoelacaa.Pure
open Go Go.Proofs.Ytcefbdknoelacaa.A

def prm (p : List DParameter) (s : List UInt8) : DParameter := (fnd (findP p s)).1
def ps (p : List DParameter) (x : DLayout) : List DParameter := x.2.map (prm p)
theorem prm_ok {p : List DParameter} {s : List UInt8} (h : ∃ y, findP p s = some y) : findP p s = some (prm p s) ∧ prm p s ∈ p ∧ (prm p s).1 = s := by
 obtain ⟨y, hy⟩ := h
 have e : prm p s = y := by unfold prm; rw [hy]; rfl
 rw [e]
 exact ⟨hy, findP_some hy⟩
theorem prm_ev {p : List DParameter} (hp : p.length ≤ 500) (hf : Fits p 0) {s : List UInt8} (h : ∃ y, findP p s = some y) : Ev (fun k => telemetry_parameter.f k p s) (prm p s, true, ()) := by
 have := parameter_ev p hp hf s
 rw [(prm_ok h).1] at this
 exact this
structure AllOk (p : List DParameter) (l : List DLayout) : Prop where
 hp : p.length ≤ 500
 hf : Fits p 0
 hl : l.length ≤ 100
 ok : ∀ x ∈ l, LOk p x
theorem AllOk.bits {p : List DParameter} {l : List DLayout} (h : AllOk p l) {s : List UInt8} (hs : ∃ y, findP p s = some y) : 1 ≤ (prm p s).2.1 ∧ (prm p s).2.1 ≤ 24 := (mem_fit h.hf (prm_ok hs).2.1).1
theorem layoutsOk (p : List DParameter) (l : List DLayout) (h : okT (.sl YParameter) p) (h2 : okT (.sl YLayout) l) : ∃ c, Ev (fun k => telemetry_CheckLayouts.f k p l) (c, ()) ∧ Ev (fun k => perigeeref7_CheckLayouts.f k p l) (c, ()) ∧ (c = 0 → AllOk p l) := by
 obtain ⟨c, h1, h2, h3⟩ := layouts_ev p l h h2
 exact ⟨c, h1, h2, fun h => ⟨(h3 h).1.1, (h3 h).1.2, (h3 h).2.1, (h3 h).2.2⟩⟩
theorem fndL_ok (o : Option DLayout) : ((fndL o).2.1 = false) = (o = none) := by cases o <;> simp [fndL]
theorem found_ev (p : List DParameter) (l : List DLayout) (c : Int) (h : Ev (fun k => telemetry_CheckLayouts.f k p l) (c, ())) (hl : l.length ≤ 4611686018427387904) (t : List UInt8) :
 Ev (fun k => telemetry_found.f k p l t) (if c = 0 then (match findL l t with | some x => (x, 0, ()) | none => (([], []), 9, ())) else (([], []), c, ())) := by
 refine Ev.eq (fun k => by rw [telemetry_found.f_eq]) (Ev.bind h ?_)
 simp only [Bool.not_eq_true', decide_eq_false_iff_not]
 by_cases hc : c = 0
 ·refine Ev.no (fun h => h hc) (Ev.bind (layout_ev l hl t) ?_)
  rw [if_pos hc]
  simp only [fndL_ok]
  cases e : findL l t with
  | none => exact Ev.yes rfl (Ev.now _)
  | some x => exact Ev.no (by simp) (Ev.now _)
 ·rw [if_neg hc]
  exact Ev.yes hc (Ev.now _)
theorem partsOf_ev (p : List DParameter) (hp : p.length ≤ 4611686018427387904) (l : List DLayout) (hl : l.length ≤ 4611686018427387904) (hs : ∀ x ∈ l, x.2.length ≤ 1099511627776) (t : List UInt8) :
 Ev (fun k => perigeeref7_partsOf.f k p l t) (match findL l t with | some x => (ps p x, true, ()) | none => ([], false, ())) := by
 refine Ev.eq (fun k => by rw [perigeeref7_partsOf.f_eq]) ?_
 have := Ev.rng (σ := Unit) (Ty.dflt YLayout) l hl (g := fun k s i => perigeeref7_partsOf.c0 k p t l (l.length : Int) i) (fun k s i => perigeeref7_partsOf.c0_eq _ _ _ _ _ _)
  (fun _ _ => True) (fun r _ _ => (match findL r t with | some x => (ps p x, true, ()) | none => ([], false, ()))) (fun _ _ => Ev.now _) (fun i x xs s hi hx _ hget hw _ next => by
   simp only [Int.toNat_natCast, hget, hw, decide_eq_true_eq, Bool.not_eq_true', decide_eq_false_iff_not]
   refine Ev.split (fun h => ?_) (fun h => ?_)
   ·refine Ev.cast ?_ (next () trivial)
    unfold findL
    rw [List.find?_cons_of_neg (by simpa using h)]
   ·have e : findL (x :: xs) t = some x := by
     unfold findL
     rw [List.find?_cons_of_pos (by simpa using h)]
    rw [e]
    have k := Ev.rng (σ := List DParameter) [] x.2 (by have := hs x hx; omega) (g := fun k s i => perigeeref7_partsOf.c1 k p s x.2 (x.2.length : Int) i) (fun k s i => perigeeref7_partsOf.c1_eq _ _ _ _ _ _)
     (fun i s => s.length = i) (fun r _ s => (s ++ r.map (prm p), true, ())) (fun s _ => Ev.is (by simp)) (fun i y ys s hi _ _ hget hw hs' next => by
      have hx2 := hs x hx
      simp only [Int.toNat_natCast, hget, hw]
      refine Ev.bind (find_ev p hp y) (Ev.yes (by omega) (Ev.cast ?_ (next _ (by simp [hs']))))
      simp only [List.map_cons, List.append_assoc, List.cons_append, List.nil_append]
      rfl) 0 [] (by omega) rfl
    exact k) 0 () (by omega) trivial
 exact this
theorem layoutOf_ev (p : List DParameter) (l : List DLayout) (c : Int) (h : Ev (fun k => perigeeref7_CheckLayouts.f k p l) (c, ())) (ok : c = 0 → AllOk p l) (t : List UInt8) :
 Ev (fun k => perigeeref7_layoutOf.f k p l t) (if c = 0 then (match findL l t with | some x => (ps p x, 0, ()) | none => ([], 9, ())) else ([], c, ())) := by
 refine Ev.eq (fun k => by rw [perigeeref7_layoutOf.f_eq]) (Ev.bind h ?_)
 simp only [Bool.not_eq_true', decide_eq_false_iff_not]
 by_cases hc : c = 0
 ·have a := ok hc
  have := a.hp
  have := a.hl
  refine Ev.no (fun h => h hc) (Ev.bind (partsOf_ev p (by omega) l (by omega) (fun x hx => by have := (a.ok x hx).2.1; omega) t) ?_)
  rw [if_pos hc]
  cases e : findL l t with
  | none => exact Ev.yes rfl (Ev.now _)
  | some x => exact Ev.no (by simp) (Ev.now _)
 ·rw [if_neg hc]
  exact Ev.yes hc (Ev.now _)

def bsum : List DParameter → Int
 | [] => 0
 | y :: ys => y.2.1 + bsum ys
def POk (L : List DParameter) : Prop := L.length ≤ 200 ∧ ∀ y ∈ L, Fit y
theorem AllOk.ps {p : List DParameter} {l : List DLayout} (h : AllOk p l) {x : DLayout} (hx : x ∈ l) : POk (ps p x) := by
 have k := h.ok x hx
 refine ⟨by simp [Pure.ps]; exact k.2.1, fun y hy => ?_⟩
 obtain ⟨s, hs, rfl⟩ := List.mem_map.1 hy
 exact mem_fit h.hf (prm_ok (k.2.2 s hs)).2.1
theorem bsum_bd : ∀ {L : List DParameter}, (∀ y ∈ L, Fit y) → (L.length : Int) ≤ bsum L ∧ bsum L ≤ 24 * L.length
 | [], _ => by simp [bsum]
 | y :: ys, h => by
  have ih := bsum_bd (L := ys) (fun z hz => h z (by simp [hz]))
  have := (h y (by simp)).1
  simp only [bsum, List.length_cons]
  omega
def chk : List DParameter → List DReading → Int
 | [], [] => 0
 | y :: ys, v :: vs => if v.1 = y.1 then (if lo y ≤ v.2 ∧ v.2 ≤ hi y then chk ys vs else 1) else 3
 | _, _ => 3
theorem chk_nil (vs : List DReading) : chk [] vs = if vs = [] then 0 else 3 := by cases vs <;> simp [chk]
theorem chk_nil2 (ys : List DParameter) : chk ys [] = if ys = [] then 0 else 3 := by cases ys <;> simp [chk]
theorem readT_ev (p : List DParameter) (hp : p.length ≤ 500) (hf : Fits p 0) (x : DLayout) (hx : LOk p x) (vs : List DReading) (hv : vs.length ≤ 4611686018427387904) : Ev (fun k => telemetry_checkReadings.f k p x vs) (chk (ps p x) vs, ()) := by
 refine Ev.eq (fun k => by rw [telemetry_checkReadings.f_eq]) ?_
 have h2 := hx.2.1
 have := Ev.rng (σ := Unit) (Ty.dflt YReading) vs hv (g := fun k s i => telemetry_checkReadings.c0 k p vs x.1 x.2 vs (vs.length : Int) i) (fun k s i => telemetry_checkReadings.c0_eq _ _ _ _ _ _ _ _)
  (fun i s => i ≤ x.2.length) (fun r i s => (chk ((ps p x).drop i) r, ())) (fun s hs => by
   simp only [decide_eq_true_eq]
   refine Ev.split (fun h => ?_) (fun h => ?_)
   ·refine Ev.is ?_
    rw [chk_nil2, if_neg]
    intro e
    have := congrArg List.length e
    simp [ps] at this
    omega
   ·refine Ev.is ?_
    rw [chk_nil2, if_pos]
    apply List.eq_nil_of_length_eq_zero
    simp [ps]
    omega) (fun i v rest s hi hy _ hget hw hs next => by
   simp only [Int.toNat_natCast, hget, hw, decide_eq_true_eq, Bool.not_eq_true', decide_eq_false_iff_not]
   refine Ev.split (fun h => ?_) (fun h => ?_)
   ·refine Ev.is ?_
    rw [List.drop_of_length_le (by simp [ps]; omega), chk_nil]
    simp
   ·have hi2 : i < x.2.length := by omega
    have hd : (ps p x).drop i = prm p x.2[i] :: (ps p x).drop (i + 1) := by
     rw [List.drop_eq_getElem_cons (show i < (ps p x).length by simp [ps]; omega)]
     simp [ps]
    have hk : ∃ y, findP p x.2[i] = some y := hx.2.2 _ (List.getElem_mem _)
    have nm := (prm_ok hk).2.2
    refine Ev.yes (by omega) ?_
    rw [hd, chk, getD_nat [] x.2 i hi2]
    refine Ev.split (fun h => ?_) (fun h => ?_)
    ·rw [if_neg (by rw [nm]; exact h)]; exact Ev.now _
    ·have h : v.1 = x.2[i] := by simpa using h
     rw [if_pos (by rw [nm]; exact h), h]
     refine Ev.bind (prm_ev hp hf hk) ?_
     have fit := (mem_fit hf (prm_ok hk).2.1).1
     simp only [span_ev _ _ fit, Option.bind_some, in_ev]
     refine Ev.split (fun h => ?_) (fun h => ?_)
     ·rw [if_neg (of_decide_eq_false h)]; exact Ev.now _
     ·rw [if_pos (by simpa using h)]
      exact next () (by omega)) 0 () (by omega) (by omega)
 simpa using this
theorem readR_ev (L : List DParameter) (hL : POk L) (vs : List DReading) (hv : vs.length ≤ 4611686018427387904) : Ev (fun k => perigeeref7_checkReadings.f k L vs) (chk L vs, ()) := by
 refine Ev.eq (fun k => by rw [perigeeref7_checkReadings.f_eq]) ?_
 have h2 := hL.1
 have := Ev.rng (σ := Unit) (Ty.dflt YParameter) L (by omega) (g := fun k s i => perigeeref7_checkReadings.c0 k L vs L (L.length : Int) i) (fun k s i => perigeeref7_checkReadings.c0_eq _ _ _ _ _ _)
  (fun i s => i ≤ vs.length) (fun r i s => (chk r (vs.drop i), ())) (fun s hs => by
   simp only [decide_eq_true_eq, Bool.not_eq_true', decide_eq_false_iff_not]
   refine Ev.split (fun h => ?_) (fun h => ?_)
   ·refine Ev.is ?_
    rw [chk_nil, if_neg]
    intro e
    have := congrArg List.length e
    simp at this
    omega
   ·refine Ev.is ?_
    rw [chk_nil, if_pos]
    apply List.eq_nil_of_length_eq_zero
    simp
    omega) (fun i y rest s hi hy _ hget hw hs next => by
   simp only [Int.toNat_natCast, hget, hw, decide_eq_true_eq, Bool.not_eq_true', decide_eq_false_iff_not]
   refine Ev.split (fun h => ?_) (fun h => ?_)
   ·refine Ev.is ?_
    rw [List.drop_of_length_le (by omega), chk_nil2]
    simp
   ·have hi2 : i < vs.length := by omega
    have hd := List.drop_eq_getElem_cons hi2
    refine Ev.yes (by omega) ?_
    rw [hd, chk, getD_nat (Ty.dflt YReading) vs i hi2]
    refine Ev.split (fun h => ?_) (fun h => ?_)
    ·rw [if_neg h]; exact Ev.now _
    ·rw [if_pos (by simpa using h)]
     simp only [isRaw_ev _ _ (hL.2 y hy).1, Option.bind_some]
     refine Ev.yes (by omega) (Ev.split (fun h => ?_) (fun h => ?_))
     ·rw [if_neg (of_decide_eq_false h)]; exact Ev.now _
     ·rw [if_pos (by simpa using h)]
      exact next () (by omega)) 0 () (by omega) (by omega)
 simpa using this
def ROk : List DParameter → List DReading → Prop
 | [], [] => True
 | y :: ys, v :: vs => v.1 = y.1 ∧ (lo y ≤ v.2 ∧ v.2 ≤ hi y) ∧ ROk ys vs
 | _, _ => False
theorem chk_zero : ∀ (ys : List DParameter) (vs : List DReading), chk ys vs = 0 ↔ ROk ys vs
 | [], [] => by simp [chk, ROk]
 | [], v :: vs => by simp [chk, ROk]
 | y :: ys, [] => by simp [chk, ROk]
 | y :: ys, v :: vs => by
  unfold chk ROk
  by_cases h1 : v.1 = y.1
  ·by_cases h2 : lo y ≤ v.2 ∧ v.2 ≤ hi y
   ·rw [if_pos h1, if_pos h2, chk_zero ys vs]
    exact ⟨fun h => ⟨h1, h2, h⟩, fun h => h.2.2⟩
   ·rw [if_pos h1, if_neg h2]
    exact ⟨fun h => absurd h (by decide), fun h => absurd h.2.1 h2⟩
  ·rw [if_neg h1]
   exact ⟨fun h => absurd h (by decide), fun h => absurd h.1 h1⟩
theorem ROk.len : ∀ {ys : List DParameter} {vs : List DReading}, ROk ys vs → vs.length = ys.length
 | [], [], _ => rfl
 | [], _ :: _, h => h.elim
 | _ :: _, [], h => h.elim
 | _ :: ys, _ :: vs, h => by simp [ROk.len h.2.2]
theorem ROk.drop : ∀ {ys : List DParameter} {vs : List DReading}, ROk ys vs → ∀ i, ROk (ys.drop i) (vs.drop i)
 | _, _, h, 0 => by simpa using h
 | [], [], _, i + 1 => by simp [ROk]
 | [], _ :: _, h, _ + 1 => h.elim
 | _ :: _, [], h, _ + 1 => h.elim
 | _ :: ys, _ :: vs, h, i + 1 => by simpa using ROk.drop h.2.2 i

def nb (y : DParameter) : Nat := y.2.1.toNat
def allBits : List DParameter → List DReading → List Bool
 | y :: ys, v :: vs => nbits v.2 (nb y) ++ allBits ys vs
 | _, _ => []
theorem bit01 (x : Int) : x % 2 = 0 ∨ x % 2 = 1 := by omega
theorem put_ev : ∀ (m : Nat) (b : List Int) (L : List Bool) (n : Int), Pack b L → L.length + m ≤ 1000000 → m ≤ 64 →
 ∃ c, Pack c (L ++ nbits n m) ∧ Ev (fun k => telemetry_row_put.c0 k b (L.length : Int) n ((m : Int) - 1)) ((c, ((L.length + m : Nat) : Int)), ()) := by
 intro m
 induction m with
 | zero =>
  intro b L n hb hl hm
  refine ⟨b, by simpa [nbits] using hb, Ev.step (fun k => by rw [telemetry_row_put.c0_eq]) ?_⟩
  simp only [decide_eq_true_eq]
  exact Ev.no (by omega) (Ev.is (by simp))
 | succ m ih =>
  intro b L n hb hl hm
  have hx : ∃ x : Nat, n / 2 ^ m % 2 = (x : Int) ∧ x ≤ 1 := by
   rcases bit01 (n / 2 ^ m) with h | h
   ·exact ⟨0, by omega, by omega⟩
   ·exact ⟨1, by omega, by omega⟩
  obtain ⟨x, hx, hx1⟩ := hx
  have push := hb.push x hx1
  have blen := hb.len
  obtain ⟨c, c1, c2⟩ := ih _ _ n push (by simp; omega) (by omega)
  have eb : decide (x = 1) = decide (n / 2 ^ m % 2 = 1) := decide_eq_decide.2 (by omega)
  refine ⟨c, ?_, ?_⟩
  ·rw [List.append_assoc, eb] at c1
   exact c1
  ·have inner : Ev (fun k => telemetry_row_put.c1 k (if L.length % 8 = 0 then b ++ [0] else b) (L.length : Int) n (m : Int)) ((c, ((L.length + (m + 1) : Nat) : Int)), ()) := by
    have bl : (if L.length % 8 = 0 then b ++ [0] else b).length = (L.length + 8) / 8 := by
     split
     ·simp only [List.length_append, List.length_cons, List.length_nil]; omega
     ·omega
    have bb : Bytes (if L.length % 8 = 0 then b ++ [0] else b) := by
     split
     ·intro y hy
      rcases List.mem_append.1 hy with hy | hy
      ·exact hb.by_ y hy
      ·simp at hy; omega
     ·exact hb.by_
    generalize (if L.length % 8 = 0 then b ++ [0] else b) = b2 at *
    refine Ev.step (fun k => by rw [telemetry_row_put.c1_eq]) ?_
    have d8 : Int.tdiv (L.length : Int) 8 = ((L.length / 8 : Nat) : Int) := by rw [Int.tdiv_eq_ediv_of_nonneg (by omega)]; omega
    have m8 : Int.tmod (L.length : Int) 8 = ((L.length % 8 : Nat) : Int) := by rw [Int.tmod_eq_emod_of_nonneg (by omega)]; omega
    have s7 : (7 : Int) - ((L.length % 8 : Nat) : Int) = ((7 - L.length % 8 : Nat) : Int) := by omega
    have bat := bb.at (L.length / 8)
    obtain ⟨old, ho, ho2⟩ : ∃ old : Nat, b2.getD (L.length / 8) 0 = (old : Int) ∧ old < 256 := ⟨(b2.getD (L.length / 8) 0).toNat, by omega, by omega⟩
    rw [d8, m8, w64 (x := ((L.length / 8 : Nat) : Int)) (by omega) (by omega), s7, w64 (x := ((7 - L.length % 8 : Nat) : Int)) (by omega) (by omega)]
    simp only [Int.toNat_natCast]
    rw [shr64 n m (by omega), and_bit, hx, wrap_u8 (by omega) (by omega), shl8 x _ hx1 (by omega), ho]
    have sh : x <<< (7 - L.length % 8) < 256 := by
     rw [Nat.shiftLeft_eq]
     have : 2 ^ (7 - L.length % 8) ≤ 2 ^ 7 := Nat.pow_le_pow_right (by omega) (by omega)
     have : x * 2 ^ (7 - L.length % 8) ≤ 1 * 2 ^ (7 - L.length % 8) := Nat.mul_le_mul_right _ hx1
     omega
    rw [or8 old _ ho2 sh, w64 (x := (L.length : Int) + 1) (by omega) (by omega), w64 (x := (m : Int) - 1) (by omega) (by omega)]
    refine Ev.yes (by omega) (Ev.yes (by omega) (Ev.yes (by omega) (Ev.yes (by omega) ?_)))
    have e1 : putAt b2 L.length x = b2.set (L.length / 8) ((old ||| x <<< (7 - L.length % 8) : Nat) : Int) := by
     unfold putAt
     rw [ho, Int.toNat_natCast]
    rw [e1] at c2
    simp only [List.length_append, List.length_cons, List.length_nil] at c2
    rw [show ((L.length + 1 + m : Nat) : Int) = ((L.length + (m + 1) : Nat) : Int) by omega, show ((L.length + (0 + 1) : Nat) : Int) = (L.length : Int) + 1 by omega] at c2
    exact c2
   refine Ev.step (fun k => by rw [telemetry_row_put.c0_eq]) ?_
   rw [show (((m + 1 : Nat) : Int) - 1) = (m : Int) by omega]
   simp only [decide_eq_true_eq]
   have m8 : Int.tmod (L.length : Int) 8 = ((L.length % 8 : Nat) : Int) := by rw [Int.tmod_eq_emod_of_nonneg (by omega)]; omega
   rw [m8]
   refine Ev.yes (by omega) (Ev.split (fun h => ?_) (fun h => ?_))
   ·rw [if_pos (by omega)] at inner
    exact Ev.yes (by omega) inner
   ·rw [if_neg (by omega)] at inner
    exact inner
theorem putf_ev (b : List Int) (L : List Bool) (n : Int) (m : Nat) (h : Pack b L) (hl : L.length + m ≤ 1000000) (hm : m ≤ 64) :
 ∃ c, Pack c (L ++ nbits n m) ∧ Ev (fun k => telemetry_row_put.f k (b, (L.length : Int)) n (m : Int)) ((c, ((L.length + m : Nat) : Int)), ()) := by
 obtain ⟨c, c1, c2⟩ := put_ev m b L n h hl hm
 refine ⟨c, c1, Ev.eq (fun k => by rw [telemetry_row_put.f_eq]) ?_⟩
 rw [w64 (x := (m : Int) - 1) (by omega) (by omega)]
 exact c2
theorem rawBits_ev (y : DParameter) (hy : 1 ≤ y.2.1 ∧ y.2.1 ≤ 24) (n : Int) : Ev (fun k => perigeeref7_rawBits.f k y n) (nbits n (nb y), ()) := by
 have loop : ∀ (m : Nat) (L : List Bool), L.length + m ≤ 1000 → m ≤ 64 → Ev (fun k => perigeeref7_rawBits.c0 k n L ((m : Int) - 1)) (L ++ nbits n m, ()) := by
  intro m
  induction m with
  | zero =>
   intro L hl hm
   refine Ev.step (fun k => by rw [perigeeref7_rawBits.c0_eq]) ?_
   simp only [decide_eq_true_eq]
   exact Ev.no (by omega) (Ev.is (by simp [nbits]))
  | succ m ih =>
   intro L hl hm
   have next := ih (L ++ [decide (n / 2 ^ m % 2 = 1)]) (by simp; omega) (by omega)
   refine Ev.step (fun k => by rw [perigeeref7_rawBits.c0_eq]) ?_
   rw [show (((m + 1 : Nat) : Int) - 1) = (m : Int) by omega, shr64 n m (by omega), and_bit, w64 (x := (m : Int) - 1) (by omega) (by omega)]
   simp only [decide_eq_true_eq]
   refine Ev.yes (by omega) (Ev.yes (by omega) (Ev.yes (by omega) ?_))
   rw [List.append_assoc] at next
   exact next
 refine Ev.eq (fun k => by rw [perigeeref7_rawBits.f_eq]) ?_
 have := loop (nb y) [] (by simp [nb]; omega) (by simp [nb]; omega)
 rw [w64 (x := y.2.1 - 1) (by omega) (by omega)]
 rw [show ((nb y : Nat) : Int) = y.2.1 by simp [nb]; omega] at this
 simpa using this
theorem allBits_len : ∀ (ys : List DParameter) (vs : List DReading), ROk ys vs → (∀ y ∈ ys, Fit y) → ((allBits ys vs).length : Int) = bsum ys
 | [], [], _, _ => rfl
 | [], _ :: _, h, _ => h.elim
 | _ :: _, [], h, _ => h.elim
 | y :: ys, v :: vs, h, hf => by
  have ih := allBits_len ys vs h.2.2 (fun z hz => hf z (by simp [hz]))
  have := (hf y (by simp)).1
  rw [allBits, List.length_append, nbits_length, bsum, Int.natCast_add, ih]
  simp [nb]
  omega
theorem packed_ev (L : List Bool) (hl : L.length ≤ 1000000) : ∃ c, Pack c L ∧ Ev (fun k => perigeeref7_packed.f k L) (c, ()) := by
 have go : ∃ r, Ev (fun k => perigeeref7_packed.c0 k (List.replicate ((L.length + 7) / 8) 0) L (L.length : Int) (0 : Nat)) r ∧ Pack r.1 L := by
  refine Ev.rngR (σ := List Int) false L (by omega) (g := fun k s i => perigeeref7_packed.c0 k s L (L.length : Int) i) (fun k s i => perigeeref7_packed.c0_eq _ _ _ _ _)
   (fun i s => Bytes s ∧ s.length = (L.length + 7) / 8 ∧ ∀ j, bitAt s j = (decide (j < i) && L.getD j false)) (fun r => Pack r.1 L) (fun s hs => ⟨_, Ev.now _, hs.1, hs.2.1, fun j => ?_⟩) (fun i x s hi hx hgi hget hw hs next => ?_) 0 _ (by omega) ⟨?_, by simp, ?_⟩
  ·rw [hs.2.2 j]
   rcases Nat.lt_or_ge j L.length with h | h
   ·simp [h]
   ·rw [List.getD_eq_getElem?_getD, List.getElem?_eq_none h]; simp
  ·simp only [Int.toNat_natCast, hget, hw]
   have d8 : Int.tdiv (i : Int) 8 = ((i / 8 : Nat) : Int) := by rw [Int.tdiv_eq_ediv_of_nonneg (by omega)]; omega
   have m8 : Int.tmod (i : Int) 8 = ((i % 8 : Nat) : Int) := by rw [Int.tmod_eq_emod_of_nonneg (by omega)]; omega
   obtain ⟨sb, sl, sbit⟩ := hs
   cases x with
   | false =>
    obtain ⟨r, r1, r2⟩ := next s ⟨sb, sl, fun j => by
     rw [sbit j]
     by_cases e : j = i
     ·subst e; rw [hget]; simp
     ·have : decide (j < i) = decide (j < i + 1) := decide_eq_decide.2 (by omega)
      rw [this]⟩
    exact ⟨r, Ev.no (by simp) r1, r2⟩
   | true =>
    have bat := sb.at (i / 8)
    obtain ⟨old, ho, ho2⟩ : ∃ old : Nat, s.getD (i / 8) 0 = (old : Int) ∧ old < 256 := ⟨(s.getD (i / 8) 0).toNat, by omega, by omega⟩
    have e1 : putAt s i 1 = s.set (i / 8) ((old ||| 1 <<< (7 - i % 8) : Nat) : Int) := by
     unfold putAt
     rw [ho, Int.toNat_natCast]
    have sh : 1 <<< (7 - i % 8) < 256 := by
     rw [Nat.one_shiftLeft]
     have : 2 ^ (7 - i % 8) ≤ 2 ^ 7 := Nat.pow_le_pow_right (by omega) (by omega)
     omega
    obtain ⟨r, r1, r2⟩ := next (putAt s i 1) ⟨bytes_put sb i 1 (by omega), by rw [putAt_length]; exact sl, fun j => by
     rw [bitAt_put sb i (by omega) 1 (by omega), sbit j]
     by_cases e : j = i
     ·subst e; rw [hget]; simp
     ·have : decide (j < i) = decide (j < i + 1) := decide_eq_decide.2 (by omega)
      rw [this]
      simp [e]⟩
    refine ⟨r, ?_, r2⟩
    rw [d8, m8, w64 (x := ((i / 8 : Nat) : Int)) (by omega) (by omega)]
    simp only [Int.toNat_natCast]
    rw [shr128 (i % 8) (by omega), ho, or8 old _ ho2 sh]
    refine Ev.yes (by simp) (Ev.yes (by omega) (Ev.yes (by omega) (Ev.yes (by omega) ?_)))
    rw [e1] at r1
    exact r1
  ·intro y hy
   have := List.eq_of_mem_replicate hy
   omega
  ·intro j
   unfold bitAt
   rw [List.getD_eq_getElem?_getD, List.getElem?_replicate]
   split <;> simp
 obtain ⟨r, r1, r2⟩ := go
 refine ⟨r.1, r2, Ev.eq (fun k => by rw [perigeeref7_packed.f_eq]) ?_⟩
 have d8 : Int.tdiv ((L.length : Int) + 7) 8 = (((L.length + 7) / 8 : Nat) : Int) := by rw [Int.tdiv_eq_ediv_of_nonneg (by omega)]; omega
 rw [w64 (x := (L.length : Int) + 7) (by omega) (by omega), d8, w64 (x := (((L.length + 7) / 8 : Nat) : Int)) (by omega) (by omega)]
 simp only [Int.toNat_natCast]
 exact Ev.yes (by omega) r1
end Go.Proofs.Ytcefbdknoelacaa.Pure

-- YtcefbdknoelacaaQ6
set_option linter.unusedVariables false
set_option linter.unusedSimpArgs false
namespace Go.Proofs.Ytcefbdknoelacaa.Pure
open Go Go.Proofs.Ytcefbdknoelacaa.A

theorem equal_bytes (a b : List Int) (ha : a.length ≤ 4611686018427387904) : ∃ r, Ev (fun k => slices_Equal_byte.f k a b) (r, ()) ∧ (r = true ↔ a = b) := by
 by_cases h : a.length = b.length
 ·obtain ⟨r, h1, h2⟩ := eq_loop (0 : Int) (e := fun x y => decide (x = y)) (fun x y => decide_eq_true_iff) a b ha h (g := fun k i => slices_Equal_byte.c0 k a b (a.length : Int) i) (fun k i => slices_Equal_byte.c0_eq _ _ _ _ _)
  refine ⟨r, Ev.eq (fun k => by rw [slices_Equal_byte.f_eq]) (Ev.no (by simp; omega) h1), h2⟩
 ·exact ⟨false, Ev.eq (fun k => by rw [slices_Equal_byte.f_eq]) (Ev.yes (by simp; omega) (Ev.now _)), by simp; exact fun e => h (by rw [e])⟩
theorem equal_reads (a b : List DReading) (ha : a.length ≤ 4611686018427387904) : ∃ r, Ev (fun k => slices_Equal_apiReading.f k a b) (r, ()) ∧ (r = true ↔ a = b) := by
 by_cases h : a.length = b.length
 ·obtain ⟨r, h1, h2⟩ := eq_loop (Ty.dflt YReading) (e := fun x y => eqV YReading x y) (fun x y => eqV_iff (τ := YReading) rfl) a b ha h (g := fun k i => slices_Equal_apiReading.c0 k a b (a.length : Int) i) (fun k i => slices_Equal_apiReading.c0_eq _ _ _ _ _)
  refine ⟨r, Ev.eq (fun k => by rw [slices_Equal_apiReading.f_eq]) (Ev.no (by simp; omega) h1), h2⟩
 ·exact ⟨false, Ev.eq (fun k => by rw [slices_Equal_apiReading.f_eq]) (Ev.yes (by simp; omega) (Ev.now _)), by simp; exact fun e => h (by rw [e])⟩
theorem contains_bool (l : List Bool) (hl : l.length ≤ 4611686018427387904) (v : Bool) : Ev (fun k => slices_Contains_bool.f k l v) (decide (v ∈ l), ()) := by
 obtain ⟨n, h1, h2⟩ := idx_loop false v (e := fun x => decide (v = x)) (fun x => decide_eq_true_iff) l hl (g := fun k i => slices_Index_bool.c0 k l v (l.length : Int) i) (fun k i => slices_Index_bool.c0_eq _ _ _ _ _)
 refine Ev.eq (fun k => by rw [slices_Contains_bool.f_eq]) (Ev.bind (Ev.eq (fun k => by rw [slices_Index_bool.f_eq]) h1) (Ev.is ?_))
 simp only [h2]

def FillRes (c : Int) (p : List DParameter) (o : Option DLayout) (vs : List DReading) (r : List Int × Int × Unit) : Prop :=
 if c ≠ 0 then r = ([], c, ()) else match o with
  | none => r = ([], 9, ())
  | some x => if chk (ps p x) vs ≠ 0 then r = ([], chk (ps p x) vs, ()) else Pack r.1 (allBits (ps p x) vs) ∧ r.2.1 = 0
theorem FillRes.unique {c : Int} {p : List DParameter} {o : Option DLayout} {vs : List DReading} {r s : List Int × Int × Unit} (h : FillRes c p o vs r) (h' : FillRes c p o vs s) : r = s := by
 unfold FillRes at h h'
 by_cases hc : c ≠ 0
 ·rw [if_pos hc] at h h'; rw [h, h']
 ·rw [if_neg hc] at h h'
  cases o with
  | none => rw [h, h']
  | some x =>
   simp only at h h'
   by_cases hk : chk (ps p x) vs ≠ 0
   ·rw [if_pos hk] at h h'; rw [h, h']
   ·rw [if_neg hk] at h h'
    exact Prod.ext (h.1.unique h'.1) (Prod.ext (h.2.trans h'.2.symm) rfl)
theorem FillRes.c {c : Int} {p : List DParameter} {o : Option DLayout} {vs : List DReading} (h : ¬ c = 0) : FillRes c p o vs ([], c, ()) := by unfold FillRes; rw [if_pos h]
theorem FillRes.none {c : Int} {p : List DParameter} {vs : List DReading} (h : c = 0) : FillRes c p none vs ([], 9, ()) := by unfold FillRes; rw [if_neg (by omega)]
theorem FillRes.bad {c : Int} {p : List DParameter} {x : DLayout} {vs : List DReading} (h : c = 0) (hk : ¬ chk (ps p x) vs = 0) : FillRes c p (some x) vs ([], chk (ps p x) vs, ()) := by
 unfold FillRes; rw [if_neg (by omega)]; simp only; rw [if_pos hk]; trivial
theorem FillRes.good {c : Int} {p : List DParameter} {x : DLayout} {vs : List DReading} {r : List Int × Int × Unit} (h : c = 0) (hk : chk (ps p x) vs = 0) (g : Pack r.1 (allBits (ps p x) vs) ∧ r.2.1 = 0) : FillRes c p (some x) vs r := by
 unfold FillRes; rw [if_neg (by omega)]; simp only; rw [if_neg (by omega)]; exact g
def seg (b : List Int) : Nat → Nat → List Bool
 | _, 0 => []
 | i, n + 1 => bitAt b i :: seg b (i + 1) n
theorem seg_length (b : List Int) : ∀ (n i : Nat), (seg b i n).length = n
 | 0, _ => rfl
 | n + 1, i => by simp [seg, seg_length b n]
theorem seg_append (b : List Int) : ∀ (n m i : Nat), seg b i (n + m) = seg b i n ++ seg b (i + n) m
 | 0, m, i => by simp [seg]
 | n + 1, m, i => by rw [show n + 1 + m = (n + m) + 1 by omega, seg, seg, seg_append b n m (i + 1), show i + 1 + n = i + (n + 1) by omega]; rfl
theorem take_ev (b : List Int) (hb : Bytes b) (hl : b.length ≤ 140737488351232) : ∀ (m i j : Nat) (n : Int), i + m ≤ 8 * b.length → j + m ≤ 32 → 0 ≤ n → n < 2 ^ (32 - m) →
 Ev (fun k => telemetry_row_take.c0 k b (i : Int) n ((j + m : Nat) : Int) (j : Int)) (num n (seg b i m), (b, ((i + m : Nat) : Int)), ()) := by
 intro m
 induction m with
 | zero =>
  intro i j n hi hm h0 h1
  refine Ev.step (fun k => by rw [telemetry_row_take.c0_eq]) ?_
  simp only [decide_eq_true_eq]
  exact Ev.no (by omega) (Ev.is (by simp [seg, num]))
 | succ m ih =>
  intro i j n hi hm h0 h1
  have d8 : Int.tdiv (i : Int) 8 = ((i / 8 : Nat) : Int) := by rw [Int.tdiv_eq_ediv_of_nonneg (by omega)]; omega
  have m8 : Int.tmod (i : Int) 8 = ((i % 8 : Nat) : Int) := by rw [Int.tmod_eq_emod_of_nonneg (by omega)]; omega
  have s7 : (7 : Int) - ((i % 8 : Nat) : Int) = ((7 - i % 8 : Nat) : Int) := by omega
  have bat := hb.at (i / 8)
  obtain ⟨old, ho, ho2⟩ : ∃ old : Nat, b.getD (i / 8) 0 = (old : Int) ∧ old < 256 := ⟨(b.getD (i / 8) 0).toNat, by omega, by omega⟩
  have sl : old >>> (7 - i % 8) < 256 := by
   rw [Nat.shiftRight_eq_div_pow]
   exact Nat.lt_of_le_of_lt (Nat.div_le_self _ _) ho2
  have bit : (old >>> (7 - i % 8)) % 2 = if bitAt b i = true then 1 else 0 := by
   unfold bitAt
   rw [ho, Int.toNat_natCast, Nat.testBit, Nat.and_comm, Nat.and_one_is_mod]
   rcases Nat.mod_two_eq_zero_or_one (old >>> (7 - i % 8)) with h | h <;> simp [h]
  have pw : (2 : Int) ^ (32 - m) = 2 * 2 ^ (32 - (m + 1)) := by
   rw [show 32 - m = (32 - (m + 1)) + 1 by omega, Int.pow_succ, Int.mul_comm]
  have pw2 : (2 : Int) ^ (32 - (m + 1)) ≤ 2147483648 := by
   have : ∀ a : Fin 32, (2 : Int) ^ a.val ≤ 2147483648 := by decide
   exact this ⟨32 - (m + 1), by omega⟩
  have bd : (0 : Int) ≤ (if bitAt b i = true then 1 else 0) ∧ (if bitAt b i = true then (1 : Int) else 0) ≤ 1 := by split <;> omega
  have next := ih (i + 1) (j + 1) (2 * n + (if bitAt b i = true then 1 else 0)) (by omega) (by omega) (by omega) (by omega)
  refine Ev.step (fun k => by rw [telemetry_row_take.c0_eq]) ?_
  rw [d8, m8, s7, w64 (x := ((i / 8 : Nat) : Int)) (by omega) (by omega), w64 (x := ((7 - i % 8 : Nat) : Int)) (by omega) (by omega)]
  simp only [decide_eq_true_eq, Int.toNat_natCast]
  rw [ho, shr8 old _ ho2 (by omega), and_bit8 _ sl, bit, w64 (x := (i : Int) + 1) (by omega) (by omega), w64 (x := (j : Int) + 1) (by omega) (by omega)]
  have ec : (((if bitAt b i = true then 1 else 0 : Nat)) : Int) = (if bitAt b i = true then 1 else 0) := by split <;> rfl
  rw [ec, w64 (x := 2 * n) (by omega) (by omega), w64 (x := (if bitAt b i = true then (1 : Int) else 0)) (by omega) (by omega), w64 (x := 2 * n + (if bitAt b i = true then 1 else 0)) (by omega) (by omega)]
  refine Ev.yes (by omega) (Ev.yes (by omega) (Ev.yes (by omega) ?_))
  rw [show ((j + 1 + m : Nat) : Int) = ((j + (m + 1) : Nat) : Int) by omega, show ((i + 1 : Nat) : Int) = (i : Int) + 1 by omega, show ((j + 1 : Nat) : Int) = (j : Int) + 1 by omega, show ((i + 1 + m : Nat) : Int) = ((i + (m + 1) : Nat) : Int) by omega] at next
  exact next
theorem takef_ev (b : List Int) (hb : Bytes b) (hl : b.length ≤ 140737488351232) (m i : Nat) (hi : i + m ≤ 8 * b.length) (hm : m ≤ 32) : Ev (fun k => telemetry_row_take.f k (b, (i : Int)) (m : Int)) (num 0 (seg b i m), (b, ((i + m : Nat) : Int)), ()) := by
 refine Ev.eq (fun k => by rw [telemetry_row_take.f_eq]) ?_
 have := take_ev b hb hl m i 0 0 hi (by omega) (by omega) (Int.pow_pos (by omega))
 rw [show ((0 + m : Nat) : Int) = (m : Int) by omega] at this
 exact this
def rawv (y : DParameter) (n : Int) : Int := if y.2.2.1 = true ∧ 2 ^ (nb y - 1) ≤ n then n - 2 ^ nb y else n
theorem shl1 (m : Nat) (hm : m ≤ 24) : shlI .i64 1 (m : Int) = 2 ^ m := by
 rw [shl_one m hm]; simp
theorem nbI {y : DParameter} (hy : 1 ≤ y.2.1 ∧ y.2.1 ≤ 24) : y.2.1 = ((nb y : Nat) : Int) ∧ 1 ≤ nb y ∧ nb y ≤ 24 := by simp [nb]; omega
theorem p24 (m : Nat) (hm : m ≤ 24) : (1 : Int) ≤ 2 ^ m ∧ (2 : Int) ^ m ≤ 16777216 := by
 have : ∀ a : Fin 25, (1 : Int) ≤ 2 ^ a.val ∧ (2 : Int) ^ a.val ≤ 16777216 := by decide
 exact this ⟨m, by omega⟩
theorem rawT_ev (k : Nat) (y : DParameter) (hy : 1 ≤ y.2.1 ∧ y.2.1 ≤ 24) (n : Int) (h0 : 0 ≤ n) (h1 : n < 16777216) : telemetry_raw.f k y n = some (rawv y n, ()) := by
 obtain ⟨e, e1, e2⟩ := nbI hy
 have b1 := p24 (nb y) e2
 rw [telemetry_raw.f_eq, e, w64 (x := ((nb y : Nat) : Int) - 1) (by omega) (by omega), show ((nb y : Nat) : Int) - 1 = ((nb y - 1 : Nat) : Int) by omega, shl1 _ (by omega), shl1 _ e2, w64 (by omega) (by omega)]
 simp only [decide_eq_true_eq]
 unfold rawv
 by_cases h : y.2.2.1 = true
 ·rw [if_pos h, if_pos (by omega)]
  by_cases h2 : (2 : Int) ^ (nb y - 1) ≤ n
  ·rw [if_pos h2, if_pos (by omega), if_pos ⟨h, h2⟩]
  ·rw [if_neg h2, if_neg (fun hh => h2 hh.2)]
 ·rw [if_neg h, if_neg (fun hh => h hh.1)]
theorem num_cons_bool (b : Bool) (L : List Bool) : num 0 (b :: L) = (if b = true then 2 ^ L.length else 0) + num 0 L := by
 rw [num, num_acc]; cases b <;> simp
theorem rawOf_ev (y : DParameter) (hy : 1 ≤ y.2.1 ∧ y.2.1 ≤ 24) (L : List Bool) (hL : L.length = nb y) : Ev (fun k => perigeeref7_rawOf.f k y L) (rawv y (num 0 L), ()) := by
 obtain ⟨e, e1, e2⟩ := nbI hy
 have b1 := p24 (nb y) e2
 have bd := num_bd L
 rw [hL] at bd
 refine Ev.eq (fun k => by rw [perigeeref7_rawOf.f_eq]) ?_
 have h := Ev.rng (σ := Int) false L (by omega) (g := fun k s i => perigeeref7_rawOf.c0 k L y.1 y.2.1 y.2.2.1 y.2.2.2.1 y.2.2.2.2 s L (L.length : Int) i) (fun k s i => perigeeref7_rawOf.c0_eq _ _ _ _ _ _ _ _ _ _ _)
  (fun i s => 0 ≤ s ∧ s < 2 ^ i ∧ num s (L.drop i) = num 0 L) (fun r i s => (rawv y (num s r), ())) (fun s hs => by
   obtain ⟨s0, s1, s2⟩ := hs
   rw [List.drop_length, num] at s2
   rw [e, shl1 _ e2, w64 (x := s - 2 ^ nb y) (by omega) (by omega), num]
   unfold rawv
   refine Ev.split (fun h => ?_) (fun h => ?_)
   ·refine Ev.yes (by omega) ?_
    obtain ⟨b, L', rfl⟩ : ∃ b L', L = b :: L' := by cases L with | nil => simp at hL; omega | cons b L' => exact ⟨b, L', rfl⟩
    have bd2 := num_bd L'
    have l2 : L'.length = nb y - 1 := by simp at hL; omega
    have nc := num_cons_bool b L'
    rw [l2] at nc bd2
    show Ev (fun k => if b = true then _ else _) _
    refine Ev.split (fun h2 => Ev.yes (by omega) ?_) (fun h2 => ?_)
    ·rw [if_pos h2] at nc
     rw [if_pos ⟨h, by omega⟩]; exact Ev.now _
    ·rw [if_neg h2] at nc
     rw [if_neg (fun hh => by omega)]; exact Ev.now _
   ·rw [if_neg (fun hh => h hh.1)]; exact Ev.now _) (fun i x xs s hi hx hd hget hw hs next => by
   obtain ⟨s0, s1, s2⟩ := hs
   have b2 := p24 i (by omega)
   simp only [Int.toNat_natCast, hget, hw]
   rw [w64 (x := s * 2) (by omega) (by omega), w64 (x := s * 2 + 1) (by omega) (by omega)]
   rw [hd, num] at s2
   have hd2 : L.drop (i + 1) = xs := by rw [← List.drop_drop, hd]; rfl
   have p2 : (2 : Int) ^ (i + 1) = 2 ^ i * 2 := Int.pow_succ _ _
   rw [num]
   refine Ev.split (fun h => ?_) (fun h => ?_)
   ·rw [if_pos h] at s2 ⊢
    rw [show s * 2 + 1 = 2 * s + 1 by omega]
    exact next _ ⟨by omega, by omega, by rw [hd2]; exact s2⟩
   ·rw [if_neg h] at s2 ⊢
    rw [show s * 2 = 2 * s + 0 by omega]
    exact next _ ⟨by omega, by omega, by rw [hd2]; exact s2⟩) 0 0 (by omega) ⟨by omega, by simp, by simp⟩
 simpa using h
theorem seg_snoc (b : List Int) (n i : Nat) : seg b i (n + 1) = seg b i n ++ [bitAt b (i + n)] := by
 rw [seg_append b n 1 i]; rfl
theorem bitsIn_ev (b : List Int) (hb : Bytes b) (hl : b.length ≤ 1000000000) : Ev (fun k => perigeeref7_bitsIn.f k b) (seg b 0 (8 * b.length), ()) := by
 have loop : ∀ (d i : Nat), i + d = b.length → Ev (fun k => perigeeref7_bitsIn.c0 k (seg b 0 (8 * i)) b (b.length : Int) i) (seg b 0 (8 * b.length), ()) := by
  intro d
  induction d with
  | zero =>
   intro i hi
   refine Ev.step (fun k => by rw [perigeeref7_bitsIn.c0_eq]) ?_
   simp only [decide_eq_true_eq]
   refine Ev.no (by omega) (Ev.is ?_)
   rw [show i = b.length by omega]
  | succ d ih =>
   intro i hi
   have next := ih (i + 1) (by omega)
   have bat := hb.at i
   obtain ⟨old, ho, ho2⟩ : ∃ old : Nat, b.getD i 0 = (old : Int) ∧ old < 256 := ⟨(b.getD i 0).toNat, by omega, by omega⟩
   have inner : ∀ (m : Nat), m ≤ 8 → Ev (fun k => perigeeref7_bitsIn.c1 k (seg b 0 (8 * i + (8 - m))) (old : Int) ((m : Int) - 1) b (b.length : Int) i) (seg b 0 (8 * b.length), ()) := by
    intro m
    induction m with
    | zero =>
     intro hm
     refine Ev.step (fun k => by rw [perigeeref7_bitsIn.c1_eq]) ?_
     simp only [decide_eq_true_eq]
     rw [w64 (x := (i : Int) + 1) (by omega) (by omega)]
     exact Ev.no (by omega) next
    | succ m ihm =>
     intro hm
     have nx := ihm (by omega)
     have sl : old >>> m < 256 := by
      rw [Nat.shiftRight_eq_div_pow]
      exact Nat.lt_of_le_of_lt (Nat.div_le_self _ _) ho2
     have bit : (decide ((((old >>> m) % 2 : Nat) : Int) = 1)) = bitAt b (8 * i + (7 - m)) := by
      unfold bitAt
      rw [show (8 * i + (7 - m)) / 8 = i by omega, show 7 - (8 * i + (7 - m)) % 8 = m by omega, ho, Int.toNat_natCast, Nat.testBit, Nat.and_comm, Nat.and_one_is_mod]
      rcases Nat.mod_two_eq_zero_or_one (old >>> m) with h | h <;> simp [h]
     refine Ev.step (fun k => by rw [perigeeref7_bitsIn.c1_eq]) ?_
     rw [show (((m + 1 : Nat) : Int) - 1) = (m : Int) by omega, shr8 old m ho2 (by omega), and_bit8 _ sl, w64 (x := (m : Int) - 1) (by omega) (by omega), bit]
     simp only [decide_eq_true_eq]
     refine Ev.yes (by omega) (Ev.yes (by omega) (Ev.yes (by rw [seg_length]; omega) ?_))
     have e := seg_snoc b (8 * i + (8 - (m + 1))) 0
     rw [show 8 * i + (8 - (m + 1)) + 1 = 8 * i + (8 - m) by omega, show 0 + (8 * i + (8 - (m + 1))) = 8 * i + (7 - m) by omega] at e
     rw [← e]
     exact nx
   refine Ev.step (fun k => by rw [perigeeref7_bitsIn.c0_eq]) ?_
   simp only [decide_eq_true_eq, Int.toNat_natCast]
   rw [ho]
   refine Ev.yes (by omega) (Ev.yes (by omega) ?_)
   have := inner 8 (by omega)
   exact this
 refine Ev.eq (fun k => by rw [perigeeref7_bitsIn.f_eq]) ?_
 exact loop b.length 0 (by omega)

def vals : List DParameter → List Int → Nat → List DReading
 | [], _, _ => []
 | y :: ys, b, i => (y.1, rawv y (num 0 (seg b i (nb y)))) :: vals ys b (i + nb y)
def Zeros (b : List Int) (i : Nat) : Prop := ∀ j, i ≤ j → bitAt b j = false
def bsz (L : List DParameter) : Nat := (bsum L).toNat
open Classical in
def EmpRes (c : Int) (p : List DParameter) (o : Option DLayout) (b : List Int) (r : List DReading × Int × Unit) : Prop :=
 if c ≠ 0 then r = ([], c, ()) else match o with
  | none => r = ([], 9, ())
  | some x => if b.length = (bsz (ps p x) + 7) / 8 ∧ Zeros b (bsz (ps p x)) then r = (vals (ps p x) b 0, 0, ()) else r = ([], 3, ())
theorem EmpRes.unique {c : Int} {p : List DParameter} {o : Option DLayout} {b : List Int} {r s : List DReading × Int × Unit} (h : EmpRes c p o b r) (h' : EmpRes c p o b s) : r = s := by
 unfold EmpRes at h h'
 by_cases hc : c ≠ 0
 ·rw [if_pos hc] at h h'; rw [h, h']
 ·rw [if_neg hc] at h h'
  cases o with
  | none => rw [h, h']
  | some x =>
   simp only at h h'
   by_cases hk : b.length = (bsz (ps p x) + 7) / 8 ∧ Zeros b (bsz (ps p x))
   ·rw [if_pos hk] at h h'; rw [h, h']
   ·rw [if_neg hk] at h h'; rw [h, h']
theorem EmpRes.c {c : Int} {p : List DParameter} {o : Option DLayout} {b : List Int} (h : ¬ c = 0) : EmpRes c p o b ([], c, ()) := by unfold EmpRes; rw [if_pos h]
theorem EmpRes.none {c : Int} {p : List DParameter} {b : List Int} (h : c = 0) : EmpRes c p none b ([], 9, ()) := by unfold EmpRes; rw [if_neg (by omega)]
theorem EmpRes.bad {c : Int} {p : List DParameter} {x : DLayout} {b : List Int} (h : c = 0) (hk : ¬ (b.length = (bsz (ps p x) + 7) / 8 ∧ Zeros b (bsz (ps p x)))) : EmpRes c p (some x) b ([], 3, ()) := by
 unfold EmpRes; rw [if_neg (by omega)]; simp only; rw [if_neg hk]; trivial
theorem EmpRes.good {c : Int} {p : List DParameter} {x : DLayout} {b : List Int} (h : c = 0) (hk : b.length = (bsz (ps p x) + 7) / 8 ∧ Zeros b (bsz (ps p x))) : EmpRes c p (some x) b (vals (ps p x) b 0, 0, ()) := by
 unfold EmpRes; rw [if_neg (by omega)]; simp only; rw [if_pos hk]; trivial
theorem num_zero : ∀ (L : List Bool), num 0 L = 0 ↔ ∀ x ∈ L, x = false
 | [] => by simp [num]
 | b :: L => by
  have ih := num_zero L
  have bd := num_bd L
  have p : (0 : Int) < 2 ^ L.length := Int.pow_pos (by omega)
  rw [num_cons_bool]
  cases b with
  | false => simpa using ih
  | true => simp; omega
theorem seg_mem (b : List Int) : ∀ (n i : Nat) (x : Bool), x ∈ seg b i n ↔ ∃ j, j < n ∧ bitAt b (i + j) = x
 | 0, i, x => by simp [seg]
 | n + 1, i, x => by
  rw [seg, List.mem_cons, seg_mem b n (i + 1) x]
  constructor
  ·rintro (h | ⟨j, h1, h2⟩)
   ·exact ⟨0, by omega, h.symm⟩
   ·exact ⟨j + 1, by omega, by rw [← h2]; congr 1; omega⟩
  ·rintro ⟨j, h1, h2⟩
   cases j with
   | zero => exact .inl h2.symm
   | succ j => exact .inr ⟨j, by omega, by rw [← h2]; congr 1; omega⟩
theorem zeros_seg (b : List Int) (i : Nat) (hi : i ≤ 8 * b.length) : Zeros b i ↔ ∀ x ∈ seg b i (8 * b.length - i), x = false := by
 constructor
 ·intro h x hx
  obtain ⟨j, h1, h2⟩ := (seg_mem b _ _ _).1 hx
  rw [← h2]; exact h _ (by omega)
 ·intro h j hj
  rcases Nat.lt_or_ge j (8 * b.length) with h1 | h1
  ·exact h _ ((seg_mem b _ _ _).2 ⟨j - i, by omega, by congr 1; omega⟩)
  ·exact bitAt_out h1
theorem bsz_eq {L : List DParameter} (h : ∀ y ∈ L, Fit y) : bsum L = ((bsz L : Nat) : Int) ∧ bsz L ≤ 24 * L.length := by
 have := bsum_bd h
 unfold bsz
 omega
theorem seg_slice (b : List Int) (N i n : Nat) (h : i + n ≤ N) : ((seg b 0 N).take (i + n)).drop i = seg b i n := by
 rw [show N = i + (n + (N - (i + n))) by omega, seg_append b i, seg_append b n]
 rw [← List.append_assoc, List.take_left' (by simp [seg_length]), List.drop_left' (by simp [seg_length])]
 simp
end Go.Proofs.Ytcefbdknoelacaa.Pure

-- YtcefbdknoelacaaQ7
set_option linter.unusedVariables false
set_option linter.unusedSimpArgs false
namespace Go.Proofs.Ytcefbdknoelacaa.Pure
open Go Go.Proofs.Ytcefbdknoelacaa.A

theorem okBytes {b : List Int} (h : okT (.sl (.int .u8)) b) : Bytes b := by
 intro x hx
 have := h.2.2 x hx
 have h1 : IntKind.min .u8 ≤ x := this.1
 have h2 : x ≤ IntKind.max .u8 := this.2
 have e1 : IntKind.min .u8 = 0 := rfl
 have e2 : IntKind.max .u8 = 255 := rfl
 omega
theorem allBits_bsz (ys : List DParameter) (vs : List DReading) (h : ROk ys vs) (hf : ∀ y ∈ ys, Fit y) : (allBits ys vs).length = bsz ys := by
 have := allBits_len ys vs h hf
 have := (bsz_eq hf).1
 omega
theorem EmpRes.nil {p : List DParameter} {o : Option DLayout} {c : Int} {b : List Int} {r : List DReading × Int × Unit} (h : EmpRes c p o b r) (hr : ¬ r.2.1 = 0) : r.1 = [] := by
 unfold EmpRes at h
 by_cases hc : c = 0
 ·rw [if_neg (by omega)] at h
  cases o with
  | none => simp only at h; rw [h]
  | some x =>
   simp only at h
   by_cases hk : b.length = (bsz (ps p x) + 7) / 8 ∧ Zeros b (bsz (ps p x))
   ·rw [if_pos hk] at h; rw [h] at hr; exact absurd rfl hr
   ·rw [if_neg hk] at h; rw [h]
 ·rw [if_pos hc] at h
  rw [h]
theorem FillRes.small {p : List DParameter} {o : Option DLayout} {c : Int} {vs : List DReading} {r : List Int × Int × Unit} (hps : ∀ x, o = some x → c = 0 → POk (ps p x)) (h : FillRes c p o vs r) : Bytes r.1 ∧ r.1.length ≤ 1000000 := by
 have nil : Bytes ([] : List Int) ∧ ([] : List Int).length ≤ 1000000 := ⟨fun x hx => by simp at hx, by simp⟩
 unfold FillRes at h
 by_cases hc : c = 0
 ·rw [if_neg (by omega)] at h
  cases o with
  | none => simp only at h; rw [h]; exact nil
  | some x =>
   simp only at h
   by_cases hk : chk (ps p x) vs = 0
   ·rw [if_neg (by omega)] at h
    have pok := hps x rfl hc
    have al := allBits_bsz _ _ ((chk_zero _ _).1 hk) pok.2
    have := (bsz_eq pok.2).2
    have := pok.1
    exact ⟨h.1.by_, by rw [h.1.len, al]; omega⟩
   ·rw [if_pos hk] at h; rw [h]; exact nil
 ·rw [if_pos hc] at h
  rw [h]; exact nil
end Go.Proofs.Ytcefbdknoelacaa.Pure

-- YtcefbdknoelacaaQ8
set_option linter.unusedVariables false
set_option linter.unusedSimpArgs false
namespace Go.Proofs.Ytcefbdknoelacaa.Pure
open Go Go.Proofs.Ytcefbdknoelacaa.A

def flags : List DReading → List DReading → List Bool
 | b :: bs, n :: ns => (!decide (b.2 = n.2)) :: flags bs ns
 | _, _ => []
def cvals : List DParameter → List DReading → List DReading → List Bool
 | y :: ys, b :: bs, n :: ns => (if b.2 = n.2 then [] else nbits n.2 (nb y)) ++ cvals ys bs ns
 | _, _, _ => []
theorem flags_length : ∀ (bs ns : List DReading), bs.length = ns.length → (flags bs ns).length = bs.length
 | [], [], _ => rfl
 | [], _ :: _, h => by simp at h
 | _ :: _, [], h => by simp at h
 | b :: bs, n :: ns, h => by simp [flags, flags_length bs ns (by simpa using h)]
theorem cvals_length : ∀ (ys : List DParameter) (bs ns : List DReading), (∀ y ∈ ys, Fit y) → (cvals ys bs ns).length ≤ 24 * ys.length
 | [], _, _, _ => by simp [cvals]
 | y :: ys, [], _, _ => by simp [cvals]
 | y :: ys, _ :: _, [], _ => by simp [cvals]
 | y :: ys, b :: bs, n :: ns, h => by
  have ih := cvals_length ys bs ns (fun z hz => h z (by simp [hz]))
  have fit := (h y (by simp)).1
  have : nb y ≤ 24 := (nbI fit).2.2
  simp only [cvals, List.length_append, List.length_cons]
  split
  ·simp; omega
  ·rw [nbits_length]; omega
def ChRes (c : Int) (p : List DParameter) (o : Option DLayout) (bs ns : List DReading) (r : List Int × Int × Unit) : Prop :=
 if ¬ c = 0 then r = ([], c, ()) else match o with
  | none => r = ([], 9, ())
  | some x => if ¬ chk (ps p x) bs = 0 then r = ([], chk (ps p x) bs, ()) else if ¬ chk (ps p x) ns = 0 then r = ([], chk (ps p x) ns, ()) else Pack r.1 (flags bs ns ++ cvals (ps p x) bs ns) ∧ r.2.1 = 0
section
variable {c : Int} {p : List DParameter} {o : Option DLayout} {bs ns : List DReading} {x : DLayout} {r s : List Int × Int × Unit}
theorem ChRes.unique (h : ChRes c p o bs ns r) (h' : ChRes c p o bs ns s) : r = s := by
 unfold ChRes at h h'
 by_cases hc : c = 0
 ·rw [if_neg (by omega)] at h h'
  cases o with
  | none => rw [h, h']
  | some x =>
   simp only at h h'
   by_cases hk : chk (ps p x) bs = 0
   ·rw [if_neg (by omega)] at h h'
    by_cases hk : chk (ps p x) ns = 0
    ·rw [if_neg (by omega)] at h h'
     exact Prod.ext (h.1.unique h'.1) (Prod.ext (h.2.trans h'.2.symm) rfl)
    ·rw [if_pos hk] at h h'; rw [h, h']
   ·rw [if_pos hk] at h h'; rw [h, h']
 ·rw [if_pos hc] at h h'; rw [h, h']
theorem ChRes.cc (h : ¬ c = 0) : ChRes c p o bs ns ([], c, ()) := by unfold ChRes; rw [if_pos h]
theorem ChRes.none (h : c = 0) : ChRes c p none bs ns ([], 9, ()) := by unfold ChRes; rw [if_neg (by omega)]
theorem ChRes.bad1 (h : c = 0) (hk : ¬ chk (ps p x) bs = 0) : ChRes c p (some x) bs ns ([], chk (ps p x) bs, ()) := by unfold ChRes; rw [if_neg (by omega)]; simp only; rw [if_pos hk]; trivial
theorem ChRes.bad2 (h : c = 0) (hk : chk (ps p x) bs = 0) (hk2 : ¬ chk (ps p x) ns = 0) : ChRes c p (some x) bs ns ([], chk (ps p x) ns, ()) := by unfold ChRes; rw [if_neg (by omega)]; simp only; rw [if_neg (by omega), if_pos hk2]; trivial
theorem ChRes.good (h : c = 0) (hk : chk (ps p x) bs = 0) (hk2 : chk (ps p x) ns = 0) (g : Pack r.1 (flags bs ns ++ cvals (ps p x) bs ns) ∧ r.2.1 = 0) : ChRes c p (some x) bs ns r := by unfold ChRes; rw [if_neg (by omega)]; simp only; rw [if_neg (by omega), if_neg (by omega)]; exact g
end
theorem nbits_one (x : Int) : nbits x 1 = [decide (x % 2 = 1)] := by simp [nbits]
theorem chgT_ev (p : List DParameter) (l : List DLayout) (c : Int) (h : Ev (fun k => telemetry_CheckLayouts.f k p l) (c, ())) (ok : c = 0 → AllOk p l) (hl : l.length ≤ 4611686018427387904) (t : List UInt8) (bs ns : List DReading) (hb : bs.length ≤ 4611686018427387904) (hn : ns.length ≤ 4611686018427387904) :
 ∃ r, Ev (fun k => telemetry_Changes.f k p l t bs ns) r ∧ ChRes c p (findL l t) bs ns r := by
 have fo := found_ev p l c h hl t
 have e0 := fun k => telemetry_Changes.f_eq k p l t bs ns
 by_cases hc : c = 0
 ·rw [if_pos hc] at fo
  have a := ok hc
  cases e : findL l t with
  | none =>
   rw [e] at fo
   exact ⟨([], 9, ()), Ev.eq e0 (Ev.bind fo (Ev.yes (by simp) (Ev.now _))), ChRes.none hc⟩
  | some x =>
   rw [e] at fo
   obtain ⟨hx, _⟩ := findL_some e
   have lok := a.ok x hx
   have pok := a.ps hx
   have rd1 := readT_ev p a.hp a.hf x lok bs hb
   have rd2 := readT_ev p a.hp a.hf x lok ns hn
   by_cases hk : chk (ps p x) bs = 0
   ·by_cases hk2 : chk (ps p x) ns = 0
    ·have rok1 := (chk_zero _ _).1 hk
     have rok := (chk_zero _ _).1 hk2
     have len1 := rok1.len
     have len := rok.len
     have pl := pok.1
     -- the second loop
     have key2 : ∀ (d i : Nat) (b : List Int) (L : List Bool), i + d = ns.length → Pack b L → L.length + 24 * d ≤ 1000000 →
      ∃ r, Ev (fun k => telemetry_Changes.c1 k p bs b (L.length : Int) ns (ns.length : Int) i) r ∧ (Pack r.1 (L ++ cvals ((ps p x).drop i) (bs.drop i) (ns.drop i)) ∧ r.2.1 = 0) := by
      intro d
      induction d with
      | zero =>
       intro i b L hi hb h1
       refine ⟨(b, 0, ()), Ev.step (fun k => by rw [telemetry_Changes.c1_eq]) (Ev.no (by simp; omega) (Ev.now _)), ?_, rfl⟩
       rw [List.drop_of_length_le (by omega), List.drop_of_length_le (by omega), List.drop_of_length_le (by omega)]
       simpa [cvals] using hb
      | succ d ih =>
       intro i b L hi hb h1
       have hi2 : i < ns.length := by omega
       have hi1 : i < bs.length := by omega
       have hi3 : i < (ps p x).length := by omega
       have hi4 : i < x.2.length := by simpa [ps] using hi3
       have d1 := List.drop_eq_getElem_cons hi2
       have d2 := List.drop_eq_getElem_cons hi3
       have d3 := List.drop_eq_getElem_cons hi1
       have ro := rok.drop i
       rw [d1, d2] at ro
       have nm := ro.1
       have epx : (ps p x)[i] = prm p x.2[i] := by simp [ps]
       have hk2 := lok.2.2 _ (List.getElem_mem hi4)
       have pr : prm p ns[i].1 = (ps p x)[i] := by rw [nm, epx, (prm_ok hk2).2.2]
       have hk3 : ∃ y, findP p ns[i].1 = some y := by rw [nm, epx, (prm_ok hk2).2.2]; exact hk2
       have fit := (pok.2 _ (List.getElem_mem hi3)).1
       obtain ⟨m, hm⟩ : ∃ m : Nat, m = nb (ps p x)[i] := ⟨_, rfl⟩
       have hmb : ((ps p x)[i].2.1 : Int) = (m : Int) := by rw [hm]; simp [nb]; omega
       have stp : ∀ r, Ev (fun k => if ¬ ns[i].2 = bs[i].2 then (telemetry_parameter.f k p ns[i].1).bind fun r6 => (telemetry_row_put.f k (b, (L.length : Int)) ns[i].2 r6.1.2.1).bind fun r7 => telemetry_Changes.c1 k p bs r7.1.1 r7.1.2 ns (ns.length : Int) ((i : Int) + 1) else telemetry_Changes.c1 k p bs b (L.length : Int) ns (ns.length : Int) ((i : Int) + 1)) r → Ev (fun k => telemetry_Changes.c1 k p bs b (L.length : Int) ns (ns.length : Int) i) r := by
        intro r hr
        refine Ev.step (fun k => by rw [telemetry_Changes.c1_eq]) ?_
        rw [w64 (x := (i : Int) + 1) (by omega) (by omega)]
        simp only [decide_eq_true_eq, Bool.not_eq_true', decide_eq_false_iff_not, Int.toNat_natCast, getD_nat (Ty.dflt YReading) ns i hi2, getD_nat (Ty.dflt YReading) bs i hi1]
        exact Ev.yes (by omega) (Ev.yes (by omega) (Ev.yes (by omega) hr))
       by_cases hd : bs[i].2 = ns[i].2
       ·obtain ⟨r, r1, r2⟩ := ih (i + 1) b L (by omega) hb (by omega)
        refine ⟨r, stp r (Ev.no (fun h => h hd.symm) r1), ?_⟩
        rw [d1, d2, d3, cvals, if_pos hd]
        exact r2
       ·obtain ⟨b2, p1, p2⟩ := putf_ev b L ns[i].2 m hb (by omega) (by omega)
        have len2 : (L ++ nbits ns[i].2 m).length = L.length + m := by rw [List.length_append, nbits_length]
        obtain ⟨r, r1, r2⟩ := ih (i + 1) b2 _ (by omega) p1 (by omega)
        refine ⟨r, stp r (Ev.yes (fun h => hd h.symm) (Ev.bind (prm_ev a.hp a.hf hk3) ?_)), ?_⟩
        ·simp only
         rw [pr, hmb]
         refine Ev.bind p2 ?_
         rw [len2] at r1
         exact r1
        ·rw [d1, d2, d3, cvals, if_neg hd, ← hm, ← List.append_assoc]
         exact r2
     -- the first loop
     have key : ∀ (d i : Nat) (b : List Int) (L : List Bool), i + d = ns.length → Pack b L → L.length = i →
      ∃ r, Ev (fun k => telemetry_Changes.c0 k p bs ns b (L.length : Int) ns (ns.length : Int) i) r ∧ (Pack r.1 ((L ++ flags (bs.drop i) (ns.drop i)) ++ cvals (ps p x) bs ns) ∧ r.2.1 = 0) := by
      intro d
      induction d with
      | zero =>
       intro i b L hi hb h1
       obtain ⟨r, r1, r2⟩ := key2 ns.length 0 b L (by omega) hb (by omega)
       have r1 : Ev (fun k => telemetry_Changes.c1 k p bs b (L.length : Int) ns (ns.length : Int) 0) r := r1
       refine ⟨r, Ev.step (fun k => by rw [telemetry_Changes.c0_eq]) (Ev.no (by simp; omega) r1), ?_⟩
       rw [List.drop_of_length_le (l := bs) (by omega), List.drop_of_length_le (l := ns) (by omega)]
       simpa [flags] using r2
      | succ d ih =>
       intro i b L hi hb h1
       have hi2 : i < ns.length := by omega
       have hi1 : i < bs.length := by omega
       have d1 := List.drop_eq_getElem_cons hi2
       have d3 := List.drop_eq_getElem_cons hi1
       have stp : ∀ r, Ev (fun k => if ¬ ns[i].2 = bs[i].2 then (telemetry_row_put.f k (b, (L.length : Int)) 1 1).bind fun r4 => telemetry_Changes.c0 k p bs ns r4.1.1 r4.1.2 ns (ns.length : Int) ((i : Int) + 1) else (telemetry_row_put.f k (b, (L.length : Int)) 0 1).bind fun r5 => telemetry_Changes.c0 k p bs ns r5.1.1 r5.1.2 ns (ns.length : Int) ((i : Int) + 1)) r → Ev (fun k => telemetry_Changes.c0 k p bs ns b (L.length : Int) ns (ns.length : Int) i) r := by
        intro r hr
        refine Ev.step (fun k => by rw [telemetry_Changes.c0_eq]) ?_
        rw [w64 (x := (i : Int) + 1) (by omega) (by omega)]
        simp only [decide_eq_true_eq, Bool.not_eq_true', decide_eq_false_iff_not, Int.toNat_natCast, getD_nat (Ty.dflt YReading) ns i hi2, getD_nat (Ty.dflt YReading) bs i hi1]
        exact Ev.yes (by omega) (Ev.yes (by omega) (Ev.yes (by omega) hr))
       by_cases hd : bs[i].2 = ns[i].2
       ·obtain ⟨b2, p1, p2⟩ := putf_ev b L 0 1 hb (by omega) (by omega)
        rw [nbits_one] at p1
        have len2 : (L ++ [decide ((0 : Int) % 2 = 1)]).length = L.length + 1 := by simp
        obtain ⟨r, r1, r2⟩ := ih (i + 1) b2 _ (by omega) p1 (by omega)
        refine ⟨r, stp r (Ev.no (fun h => h hd.symm) (Ev.bind p2 ?_)), ?_⟩
        ·rw [len2] at r1
         exact r1
        ·rw [d1, d3, flags, decide_eq_true hd]
         rw [List.append_assoc L] at r2
         exact r2
       ·obtain ⟨b2, p1, p2⟩ := putf_ev b L 1 1 hb (by omega) (by omega)
        rw [nbits_one] at p1
        have len2 : (L ++ [decide ((1 : Int) % 2 = 1)]).length = L.length + 1 := by simp
        obtain ⟨r, r1, r2⟩ := ih (i + 1) b2 _ (by omega) p1 (by omega)
        refine ⟨r, stp r (Ev.yes (fun h => hd h.symm) (Ev.bind p2 ?_)), ?_⟩
        ·rw [len2] at r1
         exact r1
        ·rw [d1, d3, flags, decide_eq_false hd]
         rw [List.append_assoc L] at r2
         exact r2
     obtain ⟨r, r1, r2⟩ := key ns.length 0 [] [] (by omega) Pack.nil rfl
     rw [hk] at rd1
     rw [hk2] at rd2
     exact ⟨r, Ev.eq e0 (Ev.bind fo (Ev.no (by simp) (Ev.bind rd1 (Ev.no (by simp) (Ev.bind rd2 (Ev.no (by simp) r1)))))), ChRes.good hc hk hk2 (by simpa using r2)⟩
    ·rw [hk] at rd1
     exact ⟨_, Ev.eq e0 (Ev.bind fo (Ev.no (by simp) (Ev.bind rd1 (Ev.no (by simp) (Ev.bind rd2 (Ev.yes (by simpa using hk2) (Ev.now _))))))), ChRes.bad2 hc hk hk2⟩
   ·exact ⟨_, Ev.eq e0 (Ev.bind fo (Ev.no (by simp) (Ev.bind rd1 (Ev.yes (by simpa using hk) (Ev.now _))))), ChRes.bad1 hc hk⟩
 ·rw [if_neg hc] at fo
  exact ⟨_, Ev.eq e0 (Ev.bind fo (Ev.yes (by simpa using hc) (Ev.now _))), ChRes.cc hc⟩
theorem chgR_ev (p : List DParameter) (l : List DLayout) (c : Int) (h : Ev (fun k => perigeeref7_CheckLayouts.f k p l) (c, ())) (ok : c = 0 → AllOk p l) (t : List UInt8) (bs ns : List DReading) (hb : bs.length ≤ 4611686018427387904) (hn : ns.length ≤ 4611686018427387904) :
 ∃ r, Ev (fun k => perigeeref7_Changes.f k p l t bs ns) r ∧ ChRes c p (findL l t) bs ns r := by
 have fo := layoutOf_ev p l c h ok t
 have e0 := fun k => perigeeref7_Changes.f_eq k p l t bs ns
 by_cases hc : c = 0
 ·rw [if_pos hc] at fo
  have a := ok hc
  cases e : findL l t with
  | none =>
   rw [e] at fo
   exact ⟨([], 9, ()), Ev.eq e0 (Ev.bind fo (Ev.yes (by simp) (Ev.now _))), ChRes.none hc⟩
  | some x =>
   rw [e] at fo
   obtain ⟨hx, _⟩ := findL_some e
   have pok := a.ps hx
   have rd1 := readR_ev (ps p x) pok bs hb
   have rd2 := readR_ev (ps p x) pok ns hn
   by_cases hk : chk (ps p x) bs = 0
   ·by_cases hk2 : chk (ps p x) ns = 0
    ·have rok1 := (chk_zero _ _).1 hk
     have rok := (chk_zero _ _).1 hk2
     have len1 := rok1.len
     have len := rok.len
     have pl := pok.1
     have key : ∀ (d i : Nat) (F V : List Bool), i + d = (ps p x).length → F.length = i → V.length + 24 * d ≤ 100000 →
      ∃ r, Ev (fun k => perigeeref7_Changes.c0 k bs ns F V (ps p x) ((ps p x).length : Int) i) r ∧ (Pack r.1 ((F ++ flags (bs.drop i) (ns.drop i)) ++ (V ++ cvals ((ps p x).drop i) (bs.drop i) (ns.drop i))) ∧ r.2.1 = 0) := by
      intro d
      induction d with
      | zero =>
       intro i F V hi hF hV
       obtain ⟨b, b1, b2⟩ := packed_ev (F ++ V) (by simp; omega)
       refine ⟨(b, 0, ()), Ev.step (fun k => by rw [perigeeref7_Changes.c0_eq]) (Ev.no (by simp; omega) (Ev.yes (by omega) (Ev.bind b2 (Ev.now _)))), ?_, rfl⟩
       rw [List.drop_of_length_le (l := bs) (by omega), List.drop_of_length_le (l := ns) (by omega)]
       simpa [flags, cvals] using b1
      | succ d ih =>
       intro i F V hi hF hV
       have hi2 : i < ns.length := by omega
       have hi1 : i < bs.length := by omega
       have hi3 : i < (ps p x).length := by omega
       have d1 := List.drop_eq_getElem_cons hi2
       have d2 := List.drop_eq_getElem_cons hi3
       have d3 := List.drop_eq_getElem_cons hi1
       have fit := (pok.2 _ (List.getElem_mem hi3)).1
       have hmb : nb (ps p x)[i] ≤ 24 := (nbI fit).2.2
       have stp : ∀ r, Ev (fun k => if ¬ bs[i].2 = ns[i].2 then (if (0 : Int) ≤ (i : Int) ∧ (i : Int) < (ns.length : Int) then ((perigeeref7_rawBits.f k (ps p x)[i] ns[i].2).bind fun r4 => if V.length + r4.1.length ≤ 1099511627776 then perigeeref7_Changes.c0 k bs ns (F ++ [!decide (bs[i].2 = ns[i].2)]) (V ++ r4.1) (ps p x) ((ps p x).length : Int) ((i : Int) + 1) else none) else none) else perigeeref7_Changes.c0 k bs ns (F ++ [!decide (bs[i].2 = ns[i].2)]) V (ps p x) ((ps p x).length : Int) ((i : Int) + 1)) r → Ev (fun k => perigeeref7_Changes.c0 k bs ns F V (ps p x) ((ps p x).length : Int) i) r := by
        intro r hr
        refine Ev.step (fun k => by rw [perigeeref7_Changes.c0_eq]) ?_
        rw [w64 (x := (i : Int) + 1) (by omega) (by omega)]
        simp only [decide_eq_true_eq, Bool.not_eq_true', decide_eq_false_iff_not, Int.toNat_natCast, getD_nat (Ty.dflt YReading) ns i hi2, getD_nat (Ty.dflt YReading) bs i hi1, getD_nat (Ty.dflt YParameter) (ps p x) i hi3]
        exact Ev.yes (by omega) (Ev.yes (by omega) (Ev.yes (by omega) (Ev.yes (by omega) (Ev.yes (by omega) hr))))
       by_cases hd : bs[i].2 = ns[i].2
       ·obtain ⟨r, r1, r2⟩ := ih (i + 1) (F ++ [!decide (bs[i].2 = ns[i].2)]) V (by omega) (by simp [hF]) (by omega)
        refine ⟨r, stp r (Ev.no (fun h => h hd) r1), ?_⟩
        rw [d1, d2, d3, cvals, if_pos hd, flags]
        rw [List.append_assoc F] at r2
        exact r2
       ·obtain ⟨r, r1, r2⟩ := ih (i + 1) (F ++ [!decide (bs[i].2 = ns[i].2)]) (V ++ nbits ns[i].2 (nb (ps p x)[i])) (by omega) (by simp [hF]) (by rw [List.length_append, nbits_length]; omega)
        refine ⟨r, stp r (Ev.yes hd (Ev.yes (by omega) (Ev.bind (rawBits_ev _ fit ns[i].2) (Ev.yes (by rw [nbits_length]; omega) r1)))), ?_⟩
        rw [d1, d2, d3, cvals, if_neg hd, flags]
        rw [List.append_assoc F, List.append_assoc V] at r2
        exact r2
     obtain ⟨r, r1, r2⟩ := key (ps p x).length 0 [] [] (by omega) rfl (by simp; omega)
     rw [hk] at rd1
     rw [hk2] at rd2
     exact ⟨r, Ev.eq e0 (Ev.bind fo (Ev.no (by simp) (Ev.bind rd1 (Ev.no (by simp) (Ev.bind rd2 (Ev.no (by simp) r1)))))), ChRes.good hc hk hk2 (by simpa using r2)⟩
    ·rw [hk] at rd1
     exact ⟨_, Ev.eq e0 (Ev.bind fo (Ev.no (by simp) (Ev.bind rd1 (Ev.no (by simp) (Ev.bind rd2 (Ev.yes (by simpa using hk2) (Ev.now _))))))), ChRes.bad2 hc hk hk2⟩
   ·exact ⟨_, Ev.eq e0 (Ev.bind fo (Ev.no (by simp) (Ev.bind rd1 (Ev.yes (by simpa using hk) (Ev.now _))))), ChRes.bad1 hc hk⟩
 ·rw [if_neg hc] at fo
  exact ⟨_, Ev.eq e0 (Ev.bind fo (Ev.yes (by simpa using hc) (Ev.now _))), ChRes.cc hc⟩
end Go.Proofs.Ytcefbdknoelacaa.Pure

-- YtcefbdknoelacaaQ9
set_option linter.unusedVariables false
set_option linter.unusedSimpArgs false
namespace Go.Proofs.Ytcefbdknoelacaa.Pure
open Go Go.Proofs.Ytcefbdknoelacaa.A

def totF : List DParameter → List Bool → Nat
 | y :: ys, f :: fs => (if f = true then nb y else 0) + totF ys fs
 | _, _ => 0
def news : List DParameter → List DReading → List Bool → List Int → Nat → Option (List DReading)
 | y :: ys, r :: rs, f :: fs, b, i => if f = true then (if rawv y (num 0 (seg b i (nb y))) = r.2 then none else (news ys rs fs b (i + nb y)).map ((r.1, rawv y (num 0 (seg b i (nb y)))) :: ·)) else (news ys rs fs b i).map (r :: ·)
 | _, _, _, _, _ => some []
def CdOk (L : List DParameter) (rs : List DReading) (b : List Int) : Prop :=
 b.length = (L.length + totF L (seg b 0 L.length) + 7) / 8 ∧ Zeros b (L.length + totF L (seg b 0 L.length)) ∧ (news L rs (seg b 0 L.length) b L.length).isSome = true
open Classical in
noncomputable def CdRes (c : Int) (p : List DParameter) (o : Option DLayout) (rs : List DReading) (b : List Int) : List DReading × Int × Unit :=
 if ¬ c = 0 then ([], c, ()) else match o with
  | none => ([], 9, ())
  | some x => if ¬ chk (ps p x) rs = 0 then ([], chk (ps p x) rs, ()) else if CdOk (ps p x) rs b then ((news (ps p x) rs (seg b 0 (ps p x).length) b (ps p x).length).getD [], 0, ()) else ([], 3, ())
theorem totF_bd : ∀ (L : List DParameter) (fs : List Bool), (∀ y ∈ L, Fit y) → totF L fs ≤ 24 * L.length
 | [], _, _ => by simp [totF]
 | y :: ys, [], _ => by simp [totF]
 | y :: ys, f :: fs, h => by
  have ih := totF_bd ys fs (fun z hz => h z (by simp [hz]))
  have := (nbI (h y (by simp)).1).2.2
  simp only [totF, List.length_cons]
  split <;> omega
theorem bit_num (b : List Int) (i : Nat) : num 0 (seg b i 1) = (if bitAt b i = true then 1 else 0) := by
 simp [seg, num]
theorem set_mid {α : Type} (a : List α) (x y : α) (l : List α) : (a ++ x :: l).set a.length y = a ++ y :: l := by
 rw [List.set_append_right _ _ (Nat.le_refl _), Nat.sub_self]; rfl
theorem totF_cons (y : DParameter) (ys : List DParameter) (f : Bool) (fs : List Bool) : totF (y :: ys) (f :: fs) = (if f = true then nb y else 0) + totF ys fs := rfl
open Classical in
theorem cdT_ev (p : List DParameter) (l : List DLayout) (c : Int) (h : Ev (fun k => telemetry_CheckLayouts.f k p l) (c, ())) (ok : c = 0 → AllOk p l) (hl : l.length ≤ 4611686018427387904) (t : List UInt8) (rs : List DReading) (hr : rs.length ≤ 4611686018427387904) (b : List Int) (hb : Bytes b) (hbl : b.length ≤ 140737488351232) :
 Ev (fun k => telemetry_Changed.f k p l t rs b) (CdRes c p (findL l t) rs b) := by
 have fo := found_ev p l c h hl t
 have e0 := fun k => telemetry_Changed.f_eq k p l t rs b
 unfold CdRes
 by_cases hc : c = 0
 ·rw [if_neg (by omega)]
  rw [if_pos hc] at fo
  have a := ok hc
  cases e : findL l t with
  | none =>
   rw [e] at fo
   exact Ev.eq e0 (Ev.bind fo (Ev.yes (by simp) (Ev.now _)))
  | some x =>
   rw [e] at fo
   obtain ⟨hx, _⟩ := findL_some e
   have lok := a.ok x hx
   have pok := a.ps hx
   have rd1 := readT_ev p a.hp a.hf x lok rs hr
   have xl : x.2.length = (ps p x).length := by simp [ps]
   have pl := pok.1
   have tb := fun fs => totF_bd (ps p x) fs pok.2
   simp only
   by_cases hk : chk (ps p x) rs = 0
   ·rw [if_neg (by omega)]
    have rok := (chk_zero _ _).1 hk
    have len := rok.len
    rw [hk] at rd1
    have d8 : ∀ n : Nat, n ≤ 1000000 → IntKind.wrap .i64 (Int.tdiv (IntKind.wrap .i64 ((n : Int) + 7)) 8) = (((n + 7) / 8 : Nat) : Int) := by
     intro n hn
     rw [w64 (x := (n : Int) + 7) (by omega) (by omega), Int.tdiv_eq_ediv_of_nonneg (by omega), w64 (by omega) (by omega)]
     omega
    by_cases hlen : b.length < (x.2.length + 7) / 8
    ·rw [if_neg (fun hh => by have := hh.1; omega)]
     refine Ev.eq e0 (Ev.bind fo (Ev.no (by simp) (Ev.bind rd1 (Ev.no (by simp) (Ev.yes ?_ (Ev.now _))))))
     simp only
     rw [d8 _ (by omega)]
     simp only [decide_eq_true_eq]
     omega
    · -- the values
     have key2 : ∀ (d i : Nat) (done : List DReading) (at_ : Nat), i + d = x.2.length → done.length = i → b.length = (x.2.length + totF (ps p x) (seg b 0 x.2.length) + 7) / 8 → at_ + totF ((ps p x).drop i) ((seg b 0 x.2.length).drop i) = x.2.length + totF (ps p x) (seg b 0 x.2.length) →
      Ev (fun k => telemetry_Changed.c1 k p rs b (at_ : Int) (seg b 0 x.2.length) (done ++ rs.drop i) x.2 (x.2.length : Int) i) (match news ((ps p x).drop i) (rs.drop i) ((seg b 0 x.2.length).drop i) b at_ with
       | some out => if Zeros b (x.2.length + totF (ps p x) (seg b 0 x.2.length)) then (done ++ out, 0, ()) else ([], 3, ())
       | none => ([], 3, ())) := by
      intro d
      induction d with
      | zero =>
       intro i done at_ hi hd hbl hat
       have e1 : (ps p x).drop i = [] := List.drop_of_length_le (by omega)
       rw [e1] at hat ⊢
       have hat : at_ = x.2.length + totF (ps p x) (seg b 0 x.2.length) := by simpa [totF] using hat
       have tb' := tb (seg b 0 x.2.length)
       refine Ev.step (fun k => by rw [telemetry_Changed.c1_eq]) ?_
       refine Ev.no (by simp; omega) ?_
       have ends : Ev (fun k => telemetry_row_ends.f k (b, (at_ : Int))) (decide (Zeros b at_), (b, ((8 * b.length : Nat) : Int)), ()) := by
        refine Ev.eq (fun k => by rw [telemetry_row_ends.f_eq]) ?_
        simp only
        rw [w64 (x := 8 * (b.length : Int)) (by omega) (by omega), w64 (x := 8 * (b.length : Int) - (at_ : Int)) (by omega) (by omega), show 8 * (b.length : Int) - (at_ : Int) = ((8 * b.length - at_ : Nat) : Int) by omega]
        simp only [decide_eq_true_eq]
        refine Ev.yes (by omega) (Ev.yes (by omega) (Ev.bind (takef_ev b hb (by omega) (8 * b.length - at_) at_ (by omega) (by omega)) (Ev.is ?_)))
        rw [show at_ + (8 * b.length - at_) = 8 * b.length by omega]
        congr 1
        refine decide_eq_decide.2 ?_
        rw [num_zero, zeros_seg b at_ (by omega)]
       refine Ev.bind ends ?_
       rw [← hat]
       simp only [news]
       rw [List.drop_of_length_le (l := rs) (by omega)]
       by_cases hz : Zeros b at_
       ·rw [if_pos hz]; exact Ev.no (by simp [hz]) (Ev.now _)
       ·rw [if_neg hz]; exact Ev.yes (by simp [hz]) (Ev.now _)
      | succ d ih =>
       intro i done at_ hi hd hbl hat
       have hi4 : i < x.2.length := by omega
       have hi3 : i < (ps p x).length := by omega
       have hi2 : i < rs.length := by omega
       have hi5 : i < (seg b 0 x.2.length).length := by rw [seg_length]; omega
       have d1 := List.drop_eq_getElem_cons hi2
       have d2 := List.drop_eq_getElem_cons hi3
       have d5 := List.drop_eq_getElem_cons hi5
       have epx : (ps p x)[i] = prm p x.2[i] := by simp [ps]
       have hk2 := lok.2.2 _ (List.getElem_mem hi4)
       have fit := (pok.2 _ (List.getElem_mem hi3)).1
       obtain ⟨n1, n2, n3⟩ := nbI fit
       have tb' := tb (seg b 0 x.2.length)
       rw [d1, d2, d5] 
       rw [d2, d5] at hat
       rw [totF_cons] at hat
       unfold news
       have hmid : (done ++ rs[i] :: rs.drop (i + 1)).getD i (Ty.dflt YReading) = rs[i] := by
        rw [List.getD_eq_getElem?_getD, List.getElem?_append_right (by omega), hd, Nat.sub_self]; rfl
       have stp : ∀ r, Ev (fun k => if (seg b 0 x.2.length)[i] = false then telemetry_Changed.c1 k p rs b (at_ : Int) (seg b 0 x.2.length) (done ++ rs[i] :: rs.drop (i + 1)) x.2 (x.2.length : Int) ((i : Int) + 1) else
        (telemetry_parameter.f k p x.2[i]).bind fun r5 => (telemetry_row_take.f k (b, (at_ : Int)) r5.1.2.1).bind fun r6 => (telemetry_raw.f k r5.1 r6.1).bind fun r7 =>
         if (0 : Int) ≤ (i : Int) ∧ (i : Int) < (rs.length : Int) then (if r7.1 = rs[i].2 then some ([], (3, ())) else (if (0 : Int) ≤ (i : Int) ∧ (i : Int) < ((done ++ rs[i] :: rs.drop (i + 1)).length : Int) then telemetry_Changed.c1 k p rs r6.2.1.1 r6.2.1.2 (seg b 0 x.2.length) ((done ++ rs[i] :: rs.drop (i + 1)).set i (rs[i].1, r7.1)) x.2 (x.2.length : Int) ((i : Int) + 1) else none)) else none) r →
        Ev (fun k => telemetry_Changed.c1 k p rs b (at_ : Int) (seg b 0 x.2.length) (done ++ rs[i] :: rs.drop (i + 1)) x.2 (x.2.length : Int) i) r := by
        intro r hr
        refine Ev.step (fun k => by rw [telemetry_Changed.c1_eq]) ?_
        rw [w64 (x := (i : Int) + 1) (by omega) (by omega)]
        simp only [decide_eq_true_eq, Bool.not_eq_true', Int.toNat_natCast, getD_nat (Ty.dflt YReading) rs i hi2, getD_nat [] x.2 i hi4, getD_nat false _ i hi5, hmid]
        exact Ev.yes (by omega) (Ev.yes (by omega) (Ev.yes (by omega) hr))
       cases hf : (seg b 0 x.2.length)[i] with
       | false =>
        rw [hf] at hat
        rw [if_neg (by simp)]
        have next := ih (i + 1) (done ++ [rs[i]]) at_ (by omega) (by simp [hd]) hbl (by simpa using hat)
        rw [List.append_assoc] at next
        refine stp _ (Ev.yes hf ?_)
        refine Ev.cast ?_ next
        cases news ((ps p x).drop (i + 1)) (rs.drop (i + 1)) ((seg b 0 x.2.length).drop (i + 1)) b at_ with
        | none => rfl
        | some out => simp
       | true =>
        rw [hf, if_pos rfl] at hat
        rw [if_pos rfl]
        have bd := num_bd (seg b at_ (nb (ps p x)[i]))
        rw [seg_length] at bd
        have b1 := p24 (nb (ps p x)[i]) n3
        have rw_ := fun k => rawT_ev k (ps p x)[i] fit (num 0 (seg b at_ (nb (ps p x)[i]))) bd.1 (by omega)
        refine stp _ (Ev.no (by simp [hf]) (Ev.bind (prm_ev a.hp a.hf hk2) ?_))
        simp only
        rw [← epx, n1]
        refine Ev.bind (takef_ev b hb (by omega) (nb (ps p x)[i]) at_ (by omega) (by omega)) ?_
        simp only [rw_, Option.bind_some]
        refine Ev.yes (by omega) ?_
        by_cases he : rawv (ps p x)[i] (num 0 (seg b at_ (nb (ps p x)[i]))) = rs[i].2
        ·rw [if_pos he]
         exact Ev.yes he (Ev.now _)
        ·rw [if_neg he]
         refine Ev.no he (Ev.yes (by simp; omega) ?_)
         have next := ih (i + 1) (done ++ [(rs[i].1, rawv (ps p x)[i] (num 0 (seg b at_ (nb (ps p x)[i]))))]) (at_ + nb (ps p x)[i]) (by omega) (by simp [hd]) hbl (by omega)
         rw [List.append_assoc] at next
         have sm := set_mid done rs[i] (rs[i].1, rawv (ps p x)[i] (num 0 (seg b at_ (nb (ps p x)[i])))) (rs.drop (i + 1))
         rw [hd] at sm
         rw [sm]
         refine Ev.cast ?_ next
         cases news ((ps p x).drop (i + 1)) (rs.drop (i + 1)) ((seg b 0 x.2.length).drop (i + 1)) b (at_ + nb (ps p x)[i]) with
         | none => rfl
         | some out => simp
     have R : List DReading × Int × Unit := ([], 3, ())
     -- the bits
     have key : ∀ (d i : Nat) (tot : Nat), i + d = x.2.length → tot + totF ((ps p x).drop i) ((seg b 0 x.2.length).drop i) = x.2.length + totF (ps p x) (seg b 0 x.2.length) →
      Ev (fun k => telemetry_Changed.c0 k p rs b x.1 x.2 b (i : Int) (seg b 0 i) (tot : Int) x.2 (x.2.length : Int) i) (if CdOk (ps p x) rs b then ((news (ps p x) rs (seg b 0 (ps p x).length) b (ps p x).length).getD [], 0, ()) else ([], 3, ())) := by
      intro d
      induction d with
      | zero =>
       intro i tot hi ht
       have hix : i = x.2.length := by omega
       have ht : tot = x.2.length + totF (ps p x) (seg b 0 x.2.length) := by
        rw [List.drop_of_length_le (l := ps p x) (by omega)] at ht
        simpa [totF] using ht
       have tb' := tb (seg b 0 x.2.length)
       refine Ev.step (fun k => by rw [telemetry_Changed.c0_eq]) ?_
       refine Ev.no (by simp; omega) ?_
       rw [d8 tot (by omega)]
       simp only [Bool.not_eq_true', decide_eq_false_iff_not]
       by_cases hl2 : b.length = (tot + 7) / 8
       ·refine Ev.no (by omega) (Ev.yes (by omega) ?_)
        have k2 := key2 x.2.length 0 [] x.2.length (by omega) rfl (by omega) (by simp)
        rw [hix]
        simp only [List.drop_zero, List.nil_append] at k2
        refine Ev.cast ?_ k2
        unfold CdOk
        rw [← xl]
        cases hn : news (ps p x) rs (seg b 0 x.2.length) b x.2.length with
        | none => rw [if_neg (fun hh => by have := hh.2.2; simp at this)]
        | some out =>
         by_cases hz : Zeros b (x.2.length + totF (ps p x) (seg b 0 x.2.length))
         ·rw [if_pos ⟨by omega, hz, rfl⟩]
          simp [hz]
         ·rw [if_neg (fun hh => hz hh.2.1)]
          simp [hz]
       ·rw [if_neg (fun hh => by have := hh.1; rw [← xl] at this; omega)]
        exact Ev.yes (by omega) (Ev.now _)
      | succ d ih =>
       intro i tot hi ht
       have hi4 : i < x.2.length := by omega
       have hi3 : i < (ps p x).length := by omega
       have hi5 : i < (seg b 0 x.2.length).length := by rw [seg_length]; omega
       have d2 := List.drop_eq_getElem_cons hi3
       have d5 := List.drop_eq_getElem_cons hi5
       have epx : (ps p x)[i] = prm p x.2[i] := by simp [ps]
       have hk2 := lok.2.2 _ (List.getElem_mem hi4)
       have fit := (pok.2 _ (List.getElem_mem hi3)).1
       obtain ⟨n1, n2, n3⟩ := nbI fit
       have tb' := tb (seg b 0 x.2.length)
       have hbit : (seg b 0 x.2.length)[i] = bitAt b i := by
        have e := seg_append b i (x.2.length - i) 0
        rw [show i + (x.2.length - i) = x.2.length by omega] at e
        have : (seg b 0 x.2.length)[i]? = some (bitAt b i) := by
         rw [e, List.getElem?_append_right (by rw [seg_length]; omega), seg_length, Nat.sub_self]
         obtain ⟨m, hm⟩ : ∃ m, x.2.length - i = m + 1 := ⟨x.2.length - i - 1, by omega⟩
         rw [hm, seg]; simp
        rw [List.getElem?_eq_getElem hi5] at this
        injection this
       rw [d2, d5, hbit] at ht
       rw [totF_cons] at ht
       have sn := seg_snoc b i 0
       rw [Nat.zero_add] at sn
       have tk := takef_ev b hb (by omega) 1 i (by omega) (by omega)
       rw [bit_num] at tk
       refine Ev.step (fun k => by rw [telemetry_Changed.c0_eq]) ?_
       rw [w64 (x := (i : Int) + 1) (by omega) (by omega)]
       simp only [decide_eq_true_eq, Int.toNat_natCast, getD_nat [] x.2 i hi4]
       refine Ev.yes (by omega) (Ev.yes (by omega) (Ev.bind tk (Ev.yes (by rw [seg_length]; omega) (Ev.bind (prm_ev a.hp a.hf hk2) ?_))))
       simp only
       have bt : decide ((if bitAt b i = true then (1 : Int) else 0) = 1) = bitAt b i := by cases bitAt b i <;> simp
       rw [bt, ← sn, ← epx, n1]
       rw [w64 (x := (tot : Int) + ((nb (ps p x)[i] : Nat) : Int)) (by omega) (by omega)]
       by_cases hf : bitAt b i = true
       ·rw [if_pos hf] at ht ⊢
        have next := ih (i + 1) (tot + nb (ps p x)[i]) (by omega) (by omega)
        exact Ev.yes (by decide) next
       ·rw [if_neg hf] at ht ⊢
        have next := ih (i + 1) tot (by omega) (by omega)
        exact Ev.no (by decide) next
     have k := key x.2.length 0 x.2.length (by omega) (by simp)
     refine Ev.eq e0 (Ev.bind fo (Ev.no (by simp) (Ev.bind rd1 (Ev.no (by simp) (Ev.no ?_ k)))))
     simp only
     rw [d8 _ (by omega)]
     simp only [decide_eq_true_eq]
     omega
   ·rw [if_pos hk]
    exact Ev.eq e0 (Ev.bind fo (Ev.no (by simp) (Ev.bind rd1 (Ev.yes (by simpa using hk) (Ev.now _)))))
 ·rw [if_pos hc]
  rw [if_neg hc] at fo
  exact Ev.eq e0 (Ev.bind fo (Ev.yes (by simpa using hc) (Ev.now _)))

theorem ChRes.nil {c : Int} {p : List DParameter} {o : Option DLayout} {bs ns : List DReading} {r : List Int × Int × Unit} (h : ChRes c p o bs ns r) (hr : ¬ r.2.1 = 0) : r.1 = [] := by
 unfold ChRes at h
 by_cases hc : c = 0
 ·rw [if_neg (by omega)] at h
  cases o with
  | none => rw [h]
  | some x =>
   simp only at h
   by_cases hk : chk (ps p x) bs = 0
   ·rw [if_neg (by omega)] at h
    by_cases hk : chk (ps p x) ns = 0
    ·rw [if_neg (by omega)] at h; exact absurd h.2 hr
    ·rw [if_pos hk] at h; rw [h]
   ·rw [if_pos hk] at h; rw [h]
 ·rw [if_pos hc] at h; rw [h]
theorem ChRes.good_of {c : Int} {p : List DParameter} {o : Option DLayout} {bs ns : List DReading} {r : List Int × Int × Unit} (h : ChRes c p o bs ns r) (hr : r.2.1 = 0) :
 c = 0 ∧ ∃ x, o = some x ∧ ROk (ps p x) bs ∧ ROk (ps p x) ns ∧ Pack r.1 (flags bs ns ++ cvals (ps p x) bs ns) := by
 unfold ChRes at h
 by_cases hc : c = 0
 ·rw [if_neg (by omega)] at h
  cases o with
  | none => rw [h] at hr; exact absurd hr (by decide)
  | some x =>
   simp only at h
   by_cases hk : chk (ps p x) bs = 0
   ·rw [if_neg (by omega)] at h
    by_cases hk2 : chk (ps p x) ns = 0
    ·rw [if_neg (by omega)] at h; exact ⟨hc, x, rfl, (chk_zero _ _).1 hk, (chk_zero _ _).1 hk2, h.1⟩
    ·rw [if_pos hk2] at h; rw [h] at hr; exact absurd hr hk2
   ·rw [if_pos hk] at h; rw [h] at hr; exact absurd hr hk
 ·rw [if_pos hc] at h; rw [h] at hr; exact absurd hr hc
end Go.Proofs.Ytcefbdknoelacaa.Pure

-- YtcefbdknoelacaaQ11
set_option linter.unusedVariables false
set_option linter.unusedSimpArgs false
namespace Go.Proofs.Ytcefbdknoelacaa.Pure
open Go Go.Proofs.Ytcefbdknoelacaa.A

theorem clone_reads (l : List DReading) (hl : l.length ≤ 1099511627776) : Ev (fun k => slices_Clone_apiReading.f k l) (l, ()) := by
 refine Ev.eq (fun k => by rw [slices_Clone_apiReading.f_eq]) ?_
 refine Ev.agree (Ev.yes (by omega) (Ev.now _)) (fun h => ?_)
 have : l = [] := List.eq_nil_of_length_eq_zero h
 rw [this]
 exact Ev.now _
open Classical in
theorem cdR_ev (p : List DParameter) (l : List DLayout) (c : Int) (h : Ev (fun k => perigeeref7_CheckLayouts.f k p l) (c, ())) (ok : c = 0 → AllOk p l) (t : List UInt8) (rs : List DReading) (hr : rs.length ≤ 4611686018427387904) (b : List Int) (hb : Bytes b) (hbl : b.length ≤ 1048576) :
 Ev (fun k => perigeeref7_Changed.f k p l t rs b) (CdRes c p (findL l t) rs b) := by
 have fo := layoutOf_ev p l c h ok t
 have e0 := fun k => perigeeref7_Changed.f_eq k p l t rs b
 unfold CdRes
 by_cases hc : c = 0
 ·rw [if_neg (by omega)]
  rw [if_pos hc] at fo
  have a := ok hc
  cases e : findL l t with
  | none =>
   rw [e] at fo
   exact Ev.eq e0 (Ev.bind fo (Ev.yes (by simp) (Ev.now _)))
  | some x =>
   rw [e] at fo
   obtain ⟨hx, _⟩ := findL_some e
   have pok := a.ps hx
   have rd1 := readR_ev (ps p x) pok rs hr
   have pl := pok.1
   have tb := fun fs => totF_bd (ps p x) fs pok.2
   have bi := bitsIn_ev b hb (by omega)
   have sl := seg_length b (8 * b.length) 0
   simp only
   by_cases hk : chk (ps p x) rs = 0
   ·rw [if_neg (by omega)]
    have rok := (chk_zero _ _).1 hk
    have len := rok.len
    rw [hk] at rd1
    have tb' := tb (seg b 0 (ps p x).length)
    by_cases hlen : 8 * b.length < (ps p x).length
    ·rw [if_neg (fun hh => by have := hh.1; omega)]
     refine Ev.eq e0 (Ev.bind fo (Ev.no (by simp) (Ev.bind rd1 (Ev.no (by simp) (Ev.bind bi (Ev.yes ?_ (Ev.now _)))))))
     simp only [decide_eq_true_eq]
     rw [sl]; omega
    ·have key : ∀ (d i : Nat) (done : List DReading) (at_ : Nat), i + d = (ps p x).length → done.length = i → at_ + totF ((ps p x).drop i) ((seg b 0 (ps p x).length).drop i) = (ps p x).length + totF (ps p x) (seg b 0 (ps p x).length) →
      Ev (fun k => perigeeref7_Changed.c0 k rs b (seg b 0 (8 * b.length)) (at_ : Int) (done ++ rs.drop i) (ps p x) ((ps p x).length : Int) i)
       (if b.length = ((ps p x).length + totF (ps p x) (seg b 0 (ps p x).length) + 7) / 8 ∧ Zeros b ((ps p x).length + totF (ps p x) (seg b 0 (ps p x).length)) ∧ (news ((ps p x).drop i) (rs.drop i) ((seg b 0 (ps p x).length).drop i) b at_).isSome = true
        then (done ++ (news ((ps p x).drop i) (rs.drop i) ((seg b 0 (ps p x).length).drop i) b at_).getD [], 0, ()) else ([], 3, ())) := by
      intro d
      induction d with
      | zero =>
       intro i done at_ hi hd hat
       have e1 : (ps p x).drop i = [] := List.drop_of_length_le (by omega)
       rw [e1] at hat ⊢
       have hat : at_ = (ps p x).length + totF (ps p x) (seg b 0 (ps p x).length) := by simpa [totF] using hat
       refine Ev.step (fun k => by rw [perigeeref7_Changed.c0_eq]) ?_
       refine Ev.no (by simp; omega) ?_
       rw [w64 (x := (at_ : Int) + 7) (by omega) (by omega), Int.tdiv_eq_ediv_of_nonneg (by omega), w64 (x := ((at_ : Int) + 7) / 8) (by omega) (by omega)]
       simp only [Bool.not_eq_true', decide_eq_false_iff_not]
       rw [List.drop_of_length_le (l := rs) (by omega)]
       rw [← hat]
       by_cases hl2 : b.length = (at_ + 7) / 8
       ·have slice : ((seg b 0 (8 * b.length)).take (seg b 0 (8 * b.length)).length).drop at_ = seg b at_ (8 * b.length - at_) := by
         have := seg_slice b (8 * b.length) at_ (8 * b.length - at_) (by omega)
         rw [show at_ + (8 * b.length - at_) = 8 * b.length by omega] at this
         rw [sl]; exact this
        have co := contains_bool (seg b at_ (8 * b.length - at_)) (by rw [seg_length]; omega) true
        have zz : (true ∈ seg b at_ (8 * b.length - at_)) ↔ ¬ Zeros b at_ := by
         rw [zeros_seg b _ (by omega)]
         constructor
         ·intro h hh; have := hh _ h; cases this
         ·intro h
          apply Classical.byContradiction
          intro hn
          refine h fun z hz => ?_
          cases z with
          | false => rfl
          | true => exact absurd hz hn
        refine Ev.no (by omega) (Ev.yes (by rw [sl]; omega) ?_)
        simp only [Int.toNat_natCast]
        rw [slice]
        refine Ev.bind co ?_
        by_cases hz : Zeros b at_
        ·refine Ev.cast (if_pos ⟨hl2, hz, rfl⟩).symm ?_
         exact Ev.no (by simpa using fun h => zz.1 h hz) (Ev.is (by simp [news]))
        ·refine Ev.cast (if_neg (fun hh => hz hh.2.1)).symm ?_
         exact Ev.yes (by simpa using zz.2 hz) (Ev.now _)
       ·refine Ev.cast (if_neg (fun hh => hl2 hh.1)).symm ?_
        exact Ev.yes (by omega) (Ev.now _)
      | succ d ih =>
       intro i done at_ hi hd hat
       have hi3 : i < (ps p x).length := by omega
       have hi2 : i < rs.length := by omega
       have hi5 : i < (seg b 0 (ps p x).length).length := by rw [seg_length]; omega
       have hi6 : i < (seg b 0 (8 * b.length)).length := by rw [sl]; omega
       have d1 := List.drop_eq_getElem_cons hi2
       have d2 := List.drop_eq_getElem_cons hi3
       have d5 := List.drop_eq_getElem_cons hi5
       have fit := (pok.2 _ (List.getElem_mem hi3)).1
       obtain ⟨n1, n2, n3⟩ := nbI fit
       have hbit : (seg b 0 (ps p x).length)[i] = (seg b 0 (8 * b.length))[i] := by
        have e := seg_append b (ps p x).length (8 * b.length - (ps p x).length) 0
        rw [show (ps p x).length + (8 * b.length - (ps p x).length) = 8 * b.length by omega] at e
        have : (seg b 0 (8 * b.length))[i]? = (seg b 0 (ps p x).length)[i]? := by rw [e, List.getElem?_append_left hi5]
        rw [List.getElem?_eq_getElem hi5, List.getElem?_eq_getElem hi6] at this
        injection this with this
        exact this.symm
       rw [d1, d2, d5]
       rw [d2, d5, totF_cons] at hat
       unfold news
       have hmid : (done ++ rs[i] :: rs.drop (i + 1)).getD i (Ty.dflt YReading) = rs[i] := by
        rw [List.getD_eq_getElem?_getD, List.getElem?_append_right (by omega), hd, Nat.sub_self]; rfl
       have hset : ∀ v : DReading, (done ++ rs[i] :: rs.drop (i + 1)).set i v = done ++ v :: rs.drop (i + 1) := fun v => by
        have sm := set_mid done rs[i] v (rs.drop (i + 1))
        rw [hd] at sm
        exact sm
       have hmid2 : ∀ v : DReading, (done ++ v :: rs.drop (i + 1)).getD i (Ty.dflt YReading) = v := fun v => by
        rw [List.getD_eq_getElem?_getD, List.getElem?_append_right (by omega), hd, Nat.sub_self]; rfl
       refine Ev.step (fun k => by rw [perigeeref7_Changed.c0_eq]) ?_
       rw [w64 (x := (i : Int) + 1) (by omega) (by omega)]
       simp only [decide_eq_true_eq, Bool.not_eq_true', Int.toNat_natCast, getD_nat (Ty.dflt YReading) rs i hi2, getD_nat (Ty.dflt YParameter) (ps p x) i hi3, getD_nat false _ i hi6, hmid, hset, hmid2]
       refine Ev.yes (by omega) (Ev.yes (by omega) (Ev.yes (by omega) ?_))
       rw [← hbit]
       cases hf : (seg b 0 (ps p x).length)[i] with
       | false =>
        rw [hf] at hat
        refine Ev.yes rfl ?_
        rw [if_neg (show ¬ (false = true) by simp)]
        have next := ih (i + 1) (done ++ [rs[i]]) at_ (by omega) (by simp [hd]) (by simpa using hat)
        rw [List.append_assoc] at next
        refine Ev.cast ?_ next
        cases news ((ps p x).drop (i + 1)) (rs.drop (i + 1)) ((seg b 0 (ps p x).length).drop (i + 1)) b at_ with
        | none => simp
        | some out => simp
       | true =>
        rw [hf, if_pos rfl] at hat
        refine Ev.no (by simp) ?_
        rw [if_pos (show (true = true) from rfl)]
        rw [n1, w64 (x := (at_ : Int) + ((nb (ps p x)[i] : Nat) : Int)) (by omega) (by omega), show (at_ : Int) + ((nb (ps p x)[i] : Nat) : Int) = ((at_ + nb (ps p x)[i] : Nat) : Int) by omega]
        simp only [Int.toNat_natCast]
        rw [sl]
        refine Ev.split (fun h => ?_) (fun h => ?_)
        ·refine Ev.cast (if_neg (fun hh => by have := hh.1; omega)).symm (Ev.now _)
        ·rw [seg_slice b _ at_ (nb (ps p x)[i]) (by omega)]
         refine Ev.yes (by omega) (Ev.bind (rawOf_ev _ fit _ (seg_length _ _ _)) ?_)
         simp only [hset, hmid2]
         refine Ev.yes (by simp; omega) (Ev.yes (by simp; omega) (Ev.yes (by omega) ?_))
         by_cases he : rawv (ps p x)[i] (num 0 (seg b at_ (nb (ps p x)[i]))) = rs[i].2
         ·rw [if_pos he]
          exact Ev.yes he (Ev.is (by simp))
         ·rw [if_neg he]
          refine Ev.no he ?_
          have next := ih (i + 1) (done ++ [(rs[i].1, rawv (ps p x)[i] (num 0 (seg b at_ (nb (ps p x)[i]))))]) (at_ + nb (ps p x)[i]) (by omega) (by simp [hd]) (by omega)
          rw [List.append_assoc] at next
          refine Ev.cast ?_ next
          cases news ((ps p x).drop (i + 1)) (rs.drop (i + 1)) ((seg b 0 (ps p x).length).drop (i + 1)) b (at_ + nb (ps p x)[i]) with
          | none => simp
          | some out => simp
     have k := key (ps p x).length 0 [] (ps p x).length (by omega) rfl (by simp)
     refine Ev.eq e0 (Ev.bind fo (Ev.no (by simp) (Ev.bind rd1 (Ev.no (by simp) (Ev.bind bi (Ev.no ?_ (Ev.bind (clone_reads rs (by omega)) ?_)))))))
     ·simp only [decide_eq_true_eq]
      rw [sl]; omega
     ·refine Ev.cast ?_ k
      simp only [List.drop_zero, List.nil_append]
      unfold CdOk
      by_cases hh : b.length = ((ps p x).length + totF (ps p x) (seg b 0 (ps p x).length) + 7) / 8 ∧ Zeros b ((ps p x).length + totF (ps p x) (seg b 0 (ps p x).length)) ∧ (news (ps p x) rs (seg b 0 (ps p x).length) b (ps p x).length).isSome = true
      ·rw [if_pos hh]; exact (if_pos hh).symm
      ·rw [if_neg hh]; exact (if_neg hh).symm
   ·rw [if_pos hk]
    exact Ev.eq e0 (Ev.bind fo (Ev.no (by simp) (Ev.bind rd1 (Ev.yes (by simpa using hk) (Ev.now _)))))
 ·rw [if_pos hc]
  rw [if_neg hc] at fo
  exact Ev.eq e0 (Ev.bind fo (Ev.yes (by simpa using hc) (Ev.now _)))
theorem news_len : ∀ (L : List DParameter) (rs : List DReading) (fs : List Bool) (b : List Int) (i : Nat) (o : List DReading), news L rs fs b i = some o → o.length ≤ L.length
 | [], rs, fs, b, i, o, h => by simp only [news] at h; cases h; simp
 | y :: ys, [], fs, b, i, o, h => by simp only [news] at h; cases h; simp
 | y :: ys, r :: rs, [], b, i, o, h => by simp only [news] at h; cases h; simp
 | y :: ys, r :: rs, f :: fs, b, i, o, h => by
  unfold news at h
  split at h
  ·split at h
   ·cases h
   ·rw [Option.map_eq_some_iff] at h
    obtain ⟨o', h1, rfl⟩ := h
    have := news_len ys rs fs b _ o' h1
    simp; omega
  ·rw [Option.map_eq_some_iff] at h
   obtain ⟨o', h1, rfl⟩ := h
   have := news_len ys rs fs b _ o' h1
   simp; omega
theorem CdRes.len {p : List DParameter} {o : Option DLayout} {c : Int} {rs : List DReading} {b : List Int} (hps : ∀ x, o = some x → c = 0 → POk (ps p x)) : (CdRes c p o rs b).1.length ≤ 200 := by
 unfold CdRes
 by_cases hc : c = 0
 ·rw [if_neg (by omega)]
  cases o with
  | none => simp
  | some x =>
   simp only
   split
   ·simp
   ·split
    ·cases hn : news (ps p x) rs (seg b 0 (ps p x).length) b (ps p x).length with
     | none => simp
     | some out =>
      have := news_len _ _ _ _ _ _ hn
      have := (hps x rfl hc).1
      simp; omega
    ·simp
 ·rw [if_pos hc]; simp
theorem ChRes.small {p : List DParameter} {o : Option DLayout} {c : Int} {bs ns : List DReading} {r : List Int × Int × Unit} (hps : ∀ x, o = some x → c = 0 → POk (ps p x)) (h : ChRes c p o bs ns r) : r.1.length ≤ 1000000 := by
 by_cases hr : r.2.1 = 0
 ·obtain ⟨hc, x, hx, g1, g2, g3⟩ := h.good_of hr
  have pok := hps x hx hc
  have pl := pok.1
  have l1 := g1.len
  have l2 := g2.len
  have cl := cvals_length (ps p x) bs ns pok.2
  have fl := flags_length bs ns (by omega)
  rw [g3.len, List.length_append]; omega
 ·rw [h.nil hr]; simp
end Go.Proofs.Ytcefbdknoelacaa.Pure

-- YtcefbdknoelacaaAw
namespace Go.Proofs.Ytcefbdknoelacaa.Pure
open Go Go.Proofs.Ytcefbdknoelacaa.A
theorem awake_at (k : Nat) : perigeelaw7_awake.f (k + 40) = some (true, ()) := by kernel_rfl
theorem awake_ev : Ev (fun k => perigeelaw7_awake.f k) (true, ()) := ⟨40, fun n hn => by
 obtain ⟨k, rfl⟩ : ∃ k, n = k + 40 := ⟨n - 40, by omega⟩
 exact awake_at k⟩
end Go.Proofs.Ytcefbdknoelacaa.Pure

-- YtcefbdknoelacaaPureTelemetryChangesMatchSpec
set_option linter.unusedVariables false
namespace Go.Proofs.Ytcefbdknoelacaa.Pure
open Go Go.Proofs.Ytcefbdknoelacaa.A
theorem TelemetryChangesMatchSpec (p : List DParameter) (l : List DLayout) (t : List UInt8) (bs ns : List DReading) (b : List Int) (h0 : okT (.sl YParameter) p) (h1 : okT (.sl YLayout) l) (h2 : okT .str t) (h3 : okT (.sl YReading) bs) (h4 : okT (.sl YReading) ns) (h5 : okT (.sl (.int .u8)) b)
 (u0 : p.length ≤ 1048576) (u1 : l.length ≤ 1048576) (u3 : bs.length ≤ 1048576) (u4 : ns.length ≤ 1048576) (u5 : b.length ≤ 1048576) : ∃ n, perigeelaw7_TelemetryChangesMatchSpec.f n p l t bs ns b = some (true, ()) := by
 refine Ev.rounds (g := fun k => perigeelaw7_TelemetryChangesMatchSpec.f k p l t bs ns b) ?_
 have hbt := okBytes h5
 obtain ⟨c, c1, c2, ok⟩ := layoutsOk p l h0 h1
 have hps : ∀ x, findL l t = some x → c = 0 → POk (ps p x) := fun x hx hc => (ok hc).ps (findL_some hx).1
 obtain ⟨r, r1, r2⟩ := chgT_ev p l c c1 ok (by omega) t bs ns (by omega) (by omega)
 obtain ⟨r', r3, r4⟩ := chgR_ev p l c c2 ok t bs ns (by omega) (by omega)
 obtain rfl := r2.unique r4
 have d1 := cdT_ev p l c c1 ok (by omega) t bs (by omega) b hbt (by omega)
 have d2 := cdR_ev p l c c2 ok t bs (by omega) b hbt u5
 obtain ⟨q1, g1, g2⟩ := equal_bytes r.1 r.1 (by have := r2.small hps; omega)
 obtain rfl : q1 = true := g2.2 rfl
 obtain ⟨q2, g3, g4⟩ := equal_reads (CdRes c p (findL l t) bs b).1 (CdRes c p (findL l t) bs b).1 (by have := CdRes.len (rs := bs) (b := b) hps; omega)
 obtain rfl : q2 = true := g4.2 rfl
 refine Ev.eq (fun k => by rw [perigeelaw7_TelemetryChangesMatchSpec.f_eq]) ?_
 exact Ev.bind r1 (Ev.bind r3 (Ev.no (by simp) (Ev.bind g1 (Ev.no (by simp) (Ev.bind d1 (Ev.bind d2 (Ev.yes (by simp) (Ev.bind g3 (Ev.yes rfl (Ev.bind awake_ev (Ev.now _)))))))))))
end Go.Proofs.Ytcefbdknoelacaa.Pure
