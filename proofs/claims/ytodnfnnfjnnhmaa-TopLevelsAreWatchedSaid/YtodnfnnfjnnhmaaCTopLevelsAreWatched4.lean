/- A watch over the levels of a battery has an alarm below its floor just if the battery is empty at some moment. -/
import Derived.Below
import Derived.ChangeArms
import Derived.ChangeSlices
import Derived.DataElems
import Derived.DataReads
import Derived.Laws.Strings
import Derived.Lib.SlicesCompact
import Derived.Shelf.LaysM
import Derived.Shelf.Slices.In.SortNone
import Derived.Shelf.Small.Strs
import Derived.Shelf.Sort.Plain
import Derived.Shelf.Strconv.Clone
import Derived.SizedLaws
import Derived.Sort.Grow
import Derived.Test.YtodnfnnfjnnhmaaChecked
import Derived.Test.YtodnfnnfjnnhmaaProg
import Derived.WideShapes
import Derived.Test.YtodnfnnfjnnhmaaCTopLevelsAreWatched3
-- YtodnfnnfjnnhmaaCr
set_option linter.unusedVariables false
set_option linter.unusedSimpArgs false
namespace Go.Proofs.Ytodnfnnfjnnhmaa.A
open Go
section
variable {P : Program} {B : Base} {m m' m0 m1 : Md} {H H' H1 : Hp} {w w' : World} {o : Oper} {a : Act} {E : Env} {tab : Nat → Option TI} {T : Nat → Option FunE} {L : List Nat} {Z : Nat → Prop}

theorem wMakeFunc_ok (hh : HOk B m H w) {fn : Fn} {fs cs : Array Operand} (ho : o.op = .makeFunc fn fs cs) {X Y : List AV} (hX : All2 (AVRep m w H) X (fs.toList.map a.eval)) (hY : All2 (AVRep m w H) Y (cs.toList.map a.eval)) : WayOk P B m H w o a (wMakeFunc fn X Y) := by
 have one : ∀ {xs : Array Operand} {v : Value}, xs.toList.map a.eval = [v] → xs.map a.eval = #[v] := fun {xs v} h => by
  apply Array.ext'
  simpa using h
 have nil : ∀ {xs : Array Operand}, xs.toList.map a.eval = [] → xs.map a.eval = #[] := fun {xs} h => by
  apply Array.ext'
  simpa using h
 unfold wMakeFunc
 split
 ·rename_i f
  have h1 : fs.toList.map a.eval = [] := List.eq_nil_of_length_eq_zero hX.len
  have h2 : cs.toList.map a.eval = [] := List.eq_nil_of_length_eq_zero hY.len
  exact WayOk.one hh (by simp only [execOp, ho, nil h1, nil h2, Instr.makeFunc, Sem.run_bind, Sem.run_pure, Result.andThen_ok]) ⟨rfl, rfl⟩
 ·rename_i f id
  have h2 : cs.toList.map a.eval = [] := List.eq_nil_of_length_eq_zero hY.len
  generalize hv : fs.toList.map a.eval = vs at hX
  match vs, hX with
  | [v], hX =>
   intro Q hQ
   simp only at hQ
   split at hQ
   ·rename_i g ls hx
    have hx := live_of_only hx
    obtain ⟨b, q, q1, q2⟩ := hX.1.one.2 g ls hx
    exact ⟨_, _, hQ, OpOk.value (v := cloV f true v) (by simp only [execOp, ho, one hv, nil h2, Instr.makeFunc, Sem.run_bind, Sem.run_pure, Result.andThen_ok, cloV]) (After.same hh (AVRep.mk1 ⟨by rw [hx]; simp, fun g' ls' hh' => ⟨b, q, q1, by rw [q2]; rfl⟩⟩))⟩
   ·exact hQ.elim
 ·rename_i f id
  have h2 : fs.toList.map a.eval = [] := List.eq_nil_of_length_eq_zero hX.len
  generalize hv : cs.toList.map a.eval = vs at hY
  match vs, hY with
  | [v], hY =>
   intro Q hQ
   simp only at hQ
   split at hQ
   ·rename_i g ls hx
    have hx := live_of_only hx
    obtain ⟨b, q, q1, q2⟩ := hY.1.one.2 g ls hx
    exact ⟨_, _, hQ, OpOk.value (v := cloV f false v) (by simp only [execOp, ho, one hv, nil h2, Instr.makeFunc, Sem.run_bind, Sem.run_pure, Result.andThen_ok, cloV]) (After.same hh (AVRep.mk1 ⟨by rw [hx]; simp, fun g' ls' hh' => ⟨b, q, q1, by rw [q2]; rfl⟩⟩))⟩
   ·exact hQ.elim
 ·exact WayOk.fail
theorem row_first {sz n cap : Nat} {ad : Option Addr} {c : List Value} {F : List Nat} (h : OwnRow w sz n ad cap c F) (hl : c.length = n * sz) : ∀ w' : World, w'.heap = w.heap → (Builtin.firstCells sz n (.slice ad n cap)).run P w' = .ok c.toArray w' := by
 intro w' hw
 rcases h with ⟨q1, q2, q3, q4⟩ | ⟨b, p, blk, el, q1, q2, q3, q4, q5⟩
 ·subst q1; subst q3
  have : c = [] := by simpa using hl
  subst this
  exact run_firstCells_none w' _ _ _ _
 ·subst q1
  refine run_firstCells_some w' _ _ _ _ _ c hl fun j v hv => ?_
  rw [aad, cell_of_block (w := w) (w' := w') (by rw [hw])]
  simp only [World.cell?, q2]
  simpa using q4 j v hv
theorem RepL.frame {e : Ty} {xs : List e.den} {c : List Value} {F : List Nat} (hZ : ∀ b, Z b → w'.heap[b]? = w.heap[b]?) (hF : ∀ b ∈ F, w'.heap[b]? = w.heap[b]?) (h : RepL (fun x c F => Rep Z w e x c F) xs c F) : RepL (fun x c F => Rep Z w' e x c F) xs c F :=
 RepL.mono_F (G := F) (fun x c F' hx hF' => hx.frame hZ (fun _ h => h) fun b hb => hF b (hF' b hb)) (fun _ hb => hb) h
theorem append_own {ts : Array TypeId} {ty et : TypeId} {inf : TypeInfo} {z : Value} (A : AppTy P ts et inf z) {e : Ty} {xs ys : List e.den} {x y : Value} {F G : List Nat} (hx : Rep Z w (.vec e) xs [x] F) (hy : Rep Z w (.vec e) ys [y] G) (hn : (F ++ G).Nodup) (hF : ∀ b ∈ F ++ G, ¬ Z b ∧ b < w.heap.size) (hZ : ∀ b, Z b → b < w.heap.size)
 (hsz : inf.size = e.cells) (hzs : z.cells.size = e.cells) (hby : inf.bytes ≤ 128) (hlen : xs.length + ys.length ≤ 1099511627776) :
 ∃ v' w' F', (Builtin.append_ ts ty #[x, y]).run P w = .ok v' w' ∧ Rep Z w' (.vec e) (xs ++ ys) [v'] F' ∧ w'.os = w.os ∧ w'.tape = w.tape ∧ w'.output = w.output ∧ w.heap.size ≤ w'.heap.size ∧ (∀ b, b < w.heap.size → b ∉ F → w'.heap[b]? = w.heap[b]?) ∧ F'.Nodup ∧
  ∀ b ∈ F', ¬ Z b ∧ (b ∈ F ++ G ∨ (w.heap.size ≤ b ∧ b < w'.heap.size)) := by
 obtain ⟨hl, ad, cap, c, F1, F2, h1, h2, h3, h4, h5⟩ := hx
 obtain ⟨hl', ad', cap', c', G1, G2, k1, k2, k3, k4, k5⟩ := hy
 have h1 : x = .slice ad xs.length cap := by simpa using h1
 have k1 : y = .slice ad' ys.length cap' := by simpa using k1
 have hcl := h4.len (sz := e.cells) (fun x c F hx => hx.len)
 have hnl := k4.len (sz := e.cells) (fun x c F hx => hx.len)
 have happ := h4.append k4
 have hx1 : (Builtin.lenOf y).run P w = .ok ys.length w := by rw [k1]; rfl
 have hx3 : ∀ w' : World, w'.heap = w.heap → (Builtin.firstCells inf.size ys.length y).run P w' = .ok c'.toArray w' := by
  rw [k1, hsz]; exact row_first k5 hnl
 have hx4 : ∀ u ∈ c', u.oneCell' = true := RepL.oneCell (m := { Z := Z, hd := fun _ => undef, ft := fun _ => [] }) k4
 have hN2 : (F2 ++ G2).Nodup ∧ (∀ b ∈ F1, b ∉ F2 ++ G2) ∧ F1.Nodup := by
  rw [h3, k3] at hn
  have hs : ((F1 ++ F2) ++ (G1 ++ G2)).Nodup := hn
  rw [List.nodup_append] at hs
  obtain ⟨s1, s2, s3⟩ := hs
  rw [List.nodup_append] at s1 s2
  refine ⟨List.nodup_append.2 ⟨s1.2.1, s2.2.1, fun a ha b hb => s3 a (by simp [ha]) b (by simp [hb])⟩, fun b hb hb2 => ?_, s1.1⟩
  rcases List.mem_append.1 hb2 with hb2 | hb2
  ·exact s1.2.2 b hb b hb2 rfl
  ·exact s3 b (by simp [hb]) b (by simp [hb2]) rfl
 have hin : ∀ b ∈ F2 ++ G2, b ∈ F ++ G := fun b hb => by
  rw [h3, k3]
  rcases List.mem_append.1 hb with hb | hb <;> simp [hb]
 by_cases hroom : xs.length + ys.length ≤ cap
 ·have hrun := append_room (P := P) (w := w) (ty := ty) A (ad := ad) (len := xs.length) (cap := cap) hx1 hx3 hroom
  rcases h5 with ⟨q1, q2, q3, q4⟩ | ⟨b, p, blk, el, q1, q2, q3, q4, q5⟩
  ·subst q1; subst q2
   have hy0 : ys = [] := List.eq_nil_of_length_eq_zero (by omega)
   have hx0 : xs = [] := List.eq_nil_of_length_eq_zero (by omega)
   subst hy0; subst hx0
   rw [h1]
   exact ⟨_, _, [], hrun, ⟨by simp, none, 0, [], [], [], rfl, by simp, rfl, ⟨rfl, rfl⟩, .inl ⟨rfl, rfl, rfl, rfl⟩⟩, rfl, rfl, rfl, Nat.le_refl _, fun _ _ _ => rfl, by simp, by simp⟩
  ·subst q1
   simp only [aad, hsz] at hrun
   have hfit : p + xs.length * e.cells + c'.length ≤ blk.size := by
    have : (xs.length + ys.length) * e.cells ≤ cap * e.cells := Nat.mul_le_mul_right _ hroom
    rw [Nat.add_mul] at this
    omega
   have hst := run_storeCells_at P b (p + xs.length * e.cells) el c' 0 blk w q2 (by simpa using hfit) hx4
   simp only [Nat.add_zero] at hst
   rw [hst, Result.andThen_ok] at hrun
   have hbF : b ∈ F := by rw [h3, q5]; simp
   have hbz := hF b (by simp [hbF])
   have hW : ∀ z, z ≠ b → (w.setRow b (seg (p + xs.length * e.cells) c' blk.toList).toArray).heap[z]? = w.heap[z]? := fun z hz => setRow_other w b z _ hz
   have hb2 : ∀ z ∈ F2 ++ G2, z ≠ b := fun z hz ez => hN2.2.1 b (by rw [q5]; simp) (ez ▸ hz)
   rw [h1]
   refine ⟨_, w.setRow b (seg (p + xs.length * e.cells) c' blk.toList).toArray, F1 ++ (F2 ++ G2), hrun, ⟨by rw [List.length_append]; omega, some ⟨b, p, none⟩, cap, c ++ c', F1, F2 ++ G2, by simp, by simpa using hroom, rfl, RepL.frame (fun z hz => hW z fun ez => hbz.1 (ez ▸ hz)) (fun z hz => hW z (hb2 z hz)) happ, .inr ⟨b, p, _, el, rfl, setRow_heap w b _ _ _ _ q2, ?_, fun j u hu => ?_, q5⟩⟩, rfl, rfl, rfl, by simp, fun z hz hzF => hW z fun ez => hzF (ez ▸ hbF), List.nodup_append.2 ⟨hN2.2.2, hN2.1, fun a ha b' hb' e => hN2.2.1 a ha (e ▸ hb')⟩, fun z hz => ?_⟩
   ·have := seg_len (off := p + xs.length * e.cells) (vs := c') (l := blk.toList) (by simp; omega)
    have h7 : (seg (p + xs.length * e.cells) c' blk.toList).length = blk.size := by simpa using this
    rw [List.size_toArray, h7]; exact q3
   ·rw [List.getElem?_toArray, seg_get (by simp; omega)]
    rw [List.getElem?_append, hcl] at hu
    split at hu
    ·rename_i hj
     rw [if_neg (by omega)]
     simpa using q4 j u hu
    ·rename_i hj
     have := (List.getElem?_eq_some_iff.1 hu).1
     rw [if_pos (by omega), show p + j - (p + xs.length * e.cells) = j - xs.length * e.cells by omega]
     exact hu
   ·have hz' : z ∈ F ++ G := by
     rcases List.mem_append.1 hz with hz | hz
     ·rw [h3]; simp [hz]
     ·exact hin z hz
    exact ⟨(hF z hz').1, .inl hz'⟩
 ·have hfit : Builtin.nextslicecap (xs.length + ys.length) cap * inf.bytes ≤ 281474976710656 := by
   refine growslice_fits (by omega) ?_
   have : (xs.length + ys.length) * inf.bytes ≤ 1099511627776 * 128 := Nat.mul_le_mul hlen hby
   omega
  have hold : ∀ w' : World, w'.heap = w.heap → (Builtin.firstCells inf.size xs.length (.slice ad xs.length cap)).run P w' = .ok c.toArray w' := by
   rw [hsz]; exact row_first h5 hcl
  have hrun := append_grow (P := P) (w := w) (ty := ty) A (ad := ad) (len := xs.length) (cap := cap) hx1 hold hx3 (by omega) (by omega) hfit
  have hge := grownCap_ge w (xs.length + ys.length) cap et
  rw [h1]
  have sz : (w.drew.alloc (.cells (c.toArray ++ c'.toArray ++ Builtin.zeroCells z.cells (grownCap w (xs.length + ys.length) cap et - (xs.length + ys.length))) et)).heap.size = w.heap.size + 1 := by rw [World.size_alloc]; rfl
  have old : ∀ b, b < w.heap.size → (w.drew.alloc (.cells (c.toArray ++ c'.toArray ++ Builtin.zeroCells z.cells (grownCap w (xs.length + ys.length) cap et - (xs.length + ys.length))) et)).heap[b]? = w.heap[b]? := fun b hb => alloc_old (w := w.drew) hb
  refine ⟨_, _, w.heap.size :: (F2 ++ G2), hrun, ⟨by rw [List.length_append]; omega, some ⟨w.heap.size, 0, none⟩, _, c ++ c', [w.heap.size], F2 ++ G2, by rw [List.length_append], by simpa using hge, rfl, RepL.frame (fun z hz => old z (hZ z hz)) (fun z hz => old z (hF z (hin z hz)).2) happ, .inr ⟨w.heap.size, 0, _, et, rfl, alloc_new (w := w.drew), ?_, fun j u hu => ?_, rfl⟩⟩, rfl, rfl, rfl, by omega, fun z hz _ => old z hz, List.nodup_cons.2 ⟨fun h => ?_, hN2.1⟩, fun z hz => ?_⟩
  ·simp only [Array.size_append, List.size_toArray, size_zeroCells, hzs, hcl, hnl, Nat.zero_add]
   rw [← Nat.add_mul, ← Nat.add_mul]
   exact Nat.mul_le_mul_right _ (by omega)
  ·have hj := (List.getElem?_eq_some_iff.1 hu).1
   rw [Nat.zero_add, Array.getElem?_append, if_pos (by simpa using hj)]
   simpa using hu
  ·have := (hF _ (hin _ h)).2; omega
  ·rcases List.mem_cons.1 hz with rfl | hz
   ·exact ⟨fun hz => by have := hZ _ hz; omega, .inr ⟨Nat.le_refl _, by omega⟩⟩
   ·exact ⟨(hF z (hin z hz)).1, .inl (hin z hz)⟩

theorem Change.nil (hh : HOk B m H w) : Change B m H w [] m H w :=
 ⟨⟨rfl, rfl, rfl, Nat.le_refl _, fun _ _ => ⟨rfl, rfl, rfl⟩, fun _ _ _ => rfl, fun _ h => h, fun _ h => .inl h, (by simp), (by simp), (by simp), (by simp)⟩, (by simp)⟩
theorem sub_out (hh : HOk B m H w) {d id g off : Nat} {ls : List LV} {e : Ty} {xs0 : List e.den} {x : Value} (hda : H d = .absent) (hne : id ≠ d) (hx : H id = .live (.cells g ls)) (hl : ls[off]? = some (.v (.vec e) xs0)) (hX : LRep m w H (.sub id g off) x) :
 ∃ G F2, Change B m H w [d, id] ((m.set id (m.hd id) F2).set d x G) (putH H [(d, .live (.row e xs0)), (id, .live (.cells (g + 2) (ls.set off .junk)))]) w ∧ Rep m.Z w (.vec e) xs0 [x] G ∧ G.Nodup ∧ ∀ b ∈ G, b ∈ m.ft id := by
 have hL : (H id).Live := by rw [hx]; trivial
 have hcr := hh.cr id
 rw [hx] at hcr
 obtain ⟨b, qb, k1, k2⟩ := hX.2.2 _ _ _ hx hl
 obtain ⟨b', el, cs, F', q1, q2, q3, q4⟩ := hcr
 rw [k1] at q1; cases q1
 have hfr := frm_par (B := B) (b := b) (show (g + 2) % 2 = g % 2 by omega)
 have hnd := hh.nd id hL
 rw [q2, List.nodup_cons] at hnd
 obtain ⟨c, G, F2, r1, r2, r3, r4, r5, r6, r7⟩ := RepL.takeOut ol1_len .junk hl q4 hnd.2
 have hcx : c = x := by
  rw [frame_cell q3 r2] at k2
  exact Option.some.inj k2
 subst hcx
 obtain ⟨u, hu, r1⟩ := r1
 simp only [List.cons.injEq, and_true] at hu
 subst hu
 have hin : ∀ z, z ∈ G ∨ z ∈ b :: F2 → z ∈ m.ft id := fun z hz => by
  rw [q2]
  rcases hz with hz | hz
  ·simp [r3 z hz]
  ·rcases List.mem_cons.1 hz with rfl | hz
   ·simp
   ·simp [(r4 z hz).1]
 have H1 : ∀ c1 c2 : Cell, putH H [(d, c1), (id, c2)] d = c1 ∧ putH H [(d, c1), (id, c2)] id = c2 ∧ ∀ k, k ≠ d → k ≠ id → putH H [(d, c1), (id, c2)] k = H k := fun c1 c2 => by
  simp only [putH]
  refine ⟨by rw [upd_other _ _ hne.symm, upd_same], by rw [upd_same], fun k h1 h2 => by rw [upd_other _ _ h2, upd_other _ _ h1]⟩
 obtain ⟨e1, e2, e3⟩ := H1 (.live (.row e xs0)) (.live (.cells (g + 2) (ls.set off .junk)))
 refine ⟨G, b :: F2, ⟨⟨rfl, rfl, rfl, Nat.le_refl _, fun k hk => ?_, fun _ _ _ => rfl, fun _ h => h, fun _ h => .inl h, fun k hk => ?_, fun k hk hlv z hz => ?_, fun k hk hlv => ?_, fun i hi i' hi' hii hli hli' => ?_⟩, fun k hk hab => ?_⟩, r1, r5, fun z hz => hin z (.inl hz)⟩
 all_goals simp only [List.mem_cons, List.not_mem_nil, or_false, not_or] at *
 ·refine ⟨e3 k hk.1 hk.2, ?_, ?_⟩ <;> simp only [Md.set] <;> rw [upd_other _ _ hk.1, upd_other _ _ hk.2]
 ·rcases hk with rfl | rfl
  ·rw [e1]
   show Rep _ _ _ _ _ _
   simp only [Md.set]
   rw [upd_same, upd_same]
   exact r1
  ·rw [e2]
   simp only [CRep, Md.set]
   rw [upd_other _ _ hne, upd_other _ _ hne, upd_same, upd_same]
   exact ⟨b, el, cs, F2, by rw [hfr]; exact k1, rfl, by rw [hfr]; exact q3, r7 ⟨c, rfl, rfl⟩⟩
 ·have : z ∈ m.ft id := by
   rcases hk with rfl | rfl
   ·simp only [Md.set] at hz; rw [upd_same] at hz; exact hin z (.inl hz)
   ·simp only [Md.set] at hz; rw [upd_other _ _ hne, upd_same] at hz; exact hin z (.inr (List.mem_cons.1 hz))
  exact ⟨(hh.nz id hL z this).1, .inl ⟨id, by simp, hL, this⟩⟩
 ·rcases hk with rfl | rfl
  ·simp only [Md.set]; rw [upd_same]; exact r5
  ·simp only [Md.set]; rw [upd_other _ _ hne, upd_same, List.nodup_cons]
   exact ⟨fun h => hnd.1 (r4 _ h).1, r6⟩
 ·have key : ∀ z ∈ G, z ∉ b :: F2 := fun z hz hzb => by
   rcases List.mem_cons.1 hzb with rfl | hzb
   ·exact hnd.1 (r3 _ hz)
   ·exact (r4 z hzb).2 hz
  rcases hi with rfl | rfl <;> rcases hi' with rfl | rfl
  ·exact absurd rfl hii
  ·simp only [Md.set]; rw [upd_same, upd_other _ _ hne, upd_same]; exact key
  ·simp only [Md.set]; rw [upd_same, upd_other _ _ hne, upd_same]; exact fun z hz hzG => key z hzG hz
  ·exact absurd rfl hii
 ·rcases hk with rfl | rfl
  ·exact absurd hda hab
  ·exact EvoAt.cells_ hx e2 (by omega) (by simp only [Md.set]; rw [upd_other _ _ hne, upd_same]) fun j hj => ⟨cst_set (by simp) hj, fun _ _ => rfl⟩
theorem wAppendR_ok (hT : TabOk P tab) (hh : HOk B m H w) {ts : Array Nat} {X Y : AV} {x y : Value} (hX : AVRep m w H X x) (hY : AVRep m w H Y y)
 (ex : ∀ v w', (Builtin.append_ ts o.type #[x, y]).run P w = .ok v w' → (execOp a.eval o).run P w = .ok (.value v) w') : WayOk P B m H w o a (wAppendR tab o.dst ts X Y) := by
 unfold wAppendR
 split
 ·rename_i d j l s hdst hj
  split
  ·exact wAppendB_ok hT hh hX hY ex
  split
  ·rename_i hcond
   obtain ⟨et, inf, z, A, a1, a2, a3⟩ := appTy_ok hT hj hcond
   -- the end, alike in all cases
   have fin : ∀ {xs ys : List j.ty.den} {F G : List Nat} {rest : List (Nat × Cell)} {m1 : Md} {H1 : Hp} {ids : List Nat}, HOk B m1 H1 w → m1.Z = m.Z → Rep m.Z w (.vec j.ty) xs [x] F → Rep m.Z w (.vec j.ty) ys [y] G → (F ++ G).Nodup → (∀ b ∈ F ++ G, ¬ m.Z b ∧ b < w.heap.size ∧ Blk m1 H1 (d :: ids) b) →
    (∀ i ∈ ids, (H1 i).Live) → d ∉ ids → xs.length + ys.length ≤ 1099511627776 → 
    (∀ m2 w', Change0 B m1 H1 w (d :: ids) m2 (putH H1 ((d, .live (.row j.ty (xs ++ ys))) :: deads ids)) w' → HOk B m2 (putH H ((d, .live (.row j.ty (xs ++ ys))) :: rest)) w' ∧ Evo m H w m2 (putH H ((d, .live (.row j.ty (xs ++ ys))) :: rest)) w') → d ∉ rest.map (·.1) →
    OpOk P o a w (After B m H w (.val false [.row d]) ((d, .live (.row j.ty (xs ++ ys))) :: rest)) := by
    intro xs ys F G rest m1 H1 ids hh1 hZ hx hy hn hF hl hd hlen k hdr
    obtain ⟨v', w', F', r1, r2, r3, r4, r5, r6, r7, r8, r9⟩ := append_own (ty := o.type) A hx hy hn (fun b hb => ⟨(hF b hb).1, (hF b hb).2.1⟩) hh.zl a1 a2 a3 hlen
    have ch := Change0.one (B := B) (m := m1) (H := H1) (w := w) (w' := w') (d := d) (ids := ids) hh1 hl hd r3 r4 r5 r6 (ob := .row j.ty (xs ++ ys)) (hdr := v') (F := F') (fun b hb hnB => r7 b hb fun hbF => hnB (hF b (by simp [hbF])).2.2) (by rw [hZ]; exact r2) (fun b hb => ⟨by rw [hZ]; exact (r9 b hb).1, (r9 b hb).2.imp (fun h => (hF b h).2.2) id⟩) r8
    obtain ⟨k1, k2⟩ := k _ _ ch
    have hhd : (m1.set d v' F').hd d = v' := by simp only [Md.set]; rw [upd_same]
    refine OpOk.value (ex _ _ r1) ⟨_, k1, k2, ⟨[_], rfl, ⟨?_, fun e' xs' _ => hhd.symm, fun e' xs' _ => hhd.symm⟩, trivial⟩⟩
    rw [putH, putH_notin hdr, upd_same]; simp
   -- the row that is used up
   have src : ∀ {ys : List j.ty.den}, H s = .live (.row j.ty ys) → Rep m.Z w (.vec j.ty) ys [y] (m.ft s) ∧ (H s).Live := fun hs => by
    have hcr := hh.cr s
    rw [hs] at hcr
    have := hY.one.2.1 _ _ hs
    rw [this]
    exact ⟨hcr, by rw [hs]; trivial⟩
   split
   ·intro Q hQ
    simp only at hQ
    split at hQ
    ·rename_i hc
     simp only [Bool.and_eq_true, Bool.not_eq_true'] at hc
     obtain ⟨⟨c1, c2⟩, c4⟩ := hc
     have hda := absent_of c1 (by simp)
     have hne : s ≠ d := fun e => by subst e; rw [Nat.beq_refl] at c2; cases c2
     split at hQ
     ·rename_i e ys0 hs
      split at hQ
      ·rename_i ys hys
       obtain ⟨hlen, hQ⟩ := hQ
       obtain ⟨he, hys⟩ := castTo_sl hys
       subst he; subst hys
       have hs := live_of_only hs
       obtain ⟨hy, hsL⟩ := src hs
       refine ⟨_, _, hQ, ?_⟩
       have hx0 : x = .slice none 0 0 := hX.one
       refine fin (xs := []) (F := []) (m1 := m) (H1 := H) (ids := [s]) hh rfl ?_ hy (by simpa using hh.nd s hsL) (fun b hb => ?_) (by simpa using hsL) (by simp; exact fun h => hne h.symm) hlen (fun m2 w' ch => ?_) (by simp; exact fun h => hne h.symm)
       ·subst hx0
        exact ⟨by simp, none, 0, [], [], [], rfl, by simp, rfl, ⟨rfl, rfl⟩, .inl ⟨rfl, rfl, rfl, rfl⟩⟩
       ·have hb : b ∈ m.ft s := by simpa using hb
        exact ⟨(hh.nz s hsL b hb).1, (hh.nz s hsL b hb).2.1, s, by simp, hsL, hb⟩
       ·exact After.steps hh (ds := [d, s]) (fun i hi => by
         simp only [List.mem_cons, List.not_mem_nil, or_false] at hi
         rcases hi with rfl | rfl
         ·exact .inl hda
         ·exact .inr (putH_cons_dead H d _ [i] (by simp))) (Change.nil hh) ch
      ·exact hQ.elim
     ·exact hQ.elim
    ·exact hQ.elim
   ·rename_i id
    intro Q hQ
    simp only at hQ
    split at hQ
    ·rename_i hc
     simp only [Bool.and_eq_true, Bool.not_eq_true'] at hc
     obtain ⟨⟨⟨⟨c1, c2⟩, c3⟩, c5⟩, c4⟩ := hc
     have hda := absent_of c1 (by simp)
     have hne : s ≠ d := fun e => by subst e; rw [Nat.beq_refl] at c2; cases c2
     have hne2 : id ≠ d := fun e => by subst e; rw [Nat.beq_refl] at c3; cases c3
     have hne3 : id ≠ s := fun e => by subst e; rw [Nat.beq_refl] at c5; cases c5
     split at hQ
     ·rename_i e ys0 e' xs0 hs hx
      split at hQ
      ·rename_i ys xs hys hxs
       obtain ⟨hlen, hQ⟩ := hQ
       obtain ⟨he, hys⟩ := castTo_sl hys
       obtain ⟨he', hxs⟩ := castTo_sl hxs
       subst he; subst hys; subst he'; subst hxs
       have hs := live_of_only hs
       have hx := live_of_only hx
       obtain ⟨hy, hsL⟩ := src hs
       have hL : (H id).Live := by rw [hx]; trivial
       have hcr := hh.cr id
       rw [hx] at hcr
       have hhd := hX.one.2.1 _ _ hx
       refine ⟨_, _, hQ, ?_⟩
       refine fin (F := m.ft id) (G := m.ft s) (m1 := m) (H1 := H) (ids := [s, id]) hh rfl (by rw [hhd]; exact hcr) hy (List.nodup_append.2 ⟨hh.nd id hL, hh.nd s hsL, fun a ha b hb e => hh.sp id s hne3 hL hsL a ha (e ▸ hb)⟩) (fun b hb => ?_) (by simp [hsL, hL]) (by simp; exact ⟨fun h => hne h.symm, fun h => hne2 h.symm⟩) hlen (fun m2 w' ch => ?_) (by simp; exact ⟨fun h => hne h.symm, fun h => hne2 h.symm⟩)
       ·rcases List.mem_append.1 hb with hb | hb
        ·exact ⟨(hh.nz id hL b hb).1, (hh.nz id hL b hb).2.1, id, by simp, hL, hb⟩
        ·exact ⟨(hh.nz s hsL b hb).1, (hh.nz s hsL b hb).2.1, s, by simp, hsL, hb⟩
       ·exact After.steps hh (ds := [d, s, id]) (fun i hi => by
         simp only [List.mem_cons, List.not_mem_nil, or_false] at hi
         rcases hi with rfl | rfl | rfl
         ·exact .inl hda
         ·exact .inr (putH_cons_dead H d _ [i, id] (by simp))
         ·exact .inr (putH_cons_dead H d _ [s, i] (by simp))) (Change.nil hh) ch
      ·exact hQ.elim
     ·exact hQ.elim
    ·exact hQ.elim
   ·rename_i id g off
    intro Q hQ
    simp only at hQ
    split at hQ
    ·rename_i hc
     simp only [Bool.and_eq_true, Bool.not_eq_true'] at hc
     obtain ⟨⟨⟨⟨c1, c2⟩, c3⟩, c5⟩, c4⟩ := hc
     have hda := absent_of c1 (by simp)
     have hne : s ≠ d := fun e => by subst e; rw [Nat.beq_refl] at c2; cases c2
     have hne2 : id ≠ d := fun e => by subst e; rw [Nat.beq_refl] at c3; cases c3
     have hne3 : id ≠ s := fun e => by subst e; rw [Nat.beq_refl] at c5; cases c5
     split at hQ
     ·rename_i e ys0 g' ls hs hx
      split at hQ
      ·rename_i e' xs0 hg hl
       split at hQ
       ·rename_i ys xs ls' hys hxs hset
        obtain ⟨hlen, hQ⟩ := hQ
        obtain ⟨he, hys⟩ := castTo_sl hys
        obtain ⟨he', hxs⟩ := castTo_sl hxs
        subst he; subst hys; subst he'; subst hxs
        obtain rfl := Nat.eq_of_beq_eq_true hg
        obtain ⟨rfl, hol⟩ := setLs_one hset
        have hs := live_of_only hs
        have hx := live_of_only hx
        obtain ⟨hy, hsL⟩ := src hs
        have hL : (H id).Live := by rw [hx]; trivial
        obtain ⟨G, F2, ch1, r1, r2, r3⟩ := sub_out hh hda hne2 hx hl hX.one
        refine ⟨_, _, hQ, ?_⟩
        have hh1 := hh.change ch1
        generalize hm1 : (m.set id (m.hd id) F2).set d x G = M1 at ch1 hh1
        generalize hH1 : putH H [(d, .live (.row j.ty xs0)), (id, .live (.cells (g + 2) (ls.set off .junk)))] = H1 at ch1 hh1
        have H1d : H1 d = .live (.row j.ty xs0) := by rw [← hH1]; simp only [putH]; rw [upd_other _ _ hne2.symm, upd_same]
        have H1s : H1 s = .live (.row j.ty ys0) := by rw [← hH1]; simp only [putH]; rw [upd_other _ _ hne3.symm, upd_other _ _ hne, hs]
        have L1d : (H1 d).Live := by rw [H1d]; trivial
        have L1s : (H1 s).Live := by rw [H1s]; trivial
        have f1d : M1.ft d = G := by rw [← hm1]; simp only [Md.set]; rw [upd_same]
        have f1s : M1.ft s = m.ft s := by rw [← hm1]; simp only [Md.set]; rw [upd_other _ _ hne, upd_other _ _ hne3.symm]
        have hZ1 : M1.Z = m.Z := by rw [← hm1]; rfl
        refine fin (F := G) (G := m.ft s) (m1 := M1) (H1 := H1) (ids := [s]) hh1 hZ1 r1 hy (List.nodup_append.2 ⟨r2, hh.nd s hsL, fun a ha b hb e => hh.sp id s hne3 hL hsL a (r3 a ha) (e ▸ hb)⟩) (fun b hb => ?_) (by simpa using L1s) (by simp; exact fun h => hne h.symm) hlen (fun m2 w' ch => ?_) (by simp; exact ⟨fun h => hne h.symm, fun h => hne2 h.symm⟩)
        ·rcases List.mem_append.1 hb with hb | hb
         ·exact ⟨(hh.nz id hL b (r3 b hb)).1, (hh.nz id hL b (r3 b hb)).2.1, d, by simp, L1d, by rw [f1d]; exact hb⟩
         ·exact ⟨(hh.nz s hsL b hb).1, (hh.nz s hsL b hb).2.1, s, by simp, L1s, by rw [f1s]; exact hb⟩
        ·have heq : putH H1 ((d, .live (.row j.ty (xs0 ++ ys0))) :: deads [s]) = putH H [(d, .live (.row j.ty (xs0 ++ ys0))), (s, .dead), (id, .live (.cells (g + 2) (ls.set off .junk)))] := by
          rw [← hH1]
          simp only [putH, deads, List.map_cons, List.map_nil]
          funext k
          by_cases k1 : k = s
          ·subst k1; rw [upd_same, upd_other _ _ hne3.symm, upd_same]
          ·rw [upd_other _ _ k1]
           by_cases k2 : k = d
           ·subst k2; rw [upd_same, upd_other _ _ hne2.symm, upd_other _ _ k1, upd_same]
           ·rw [upd_other _ _ k2]
            by_cases k3 : k = id
            ·subst k3; rw [upd_same, upd_same]
            ·rw [upd_other _ _ k3, upd_other _ _ k2, upd_other _ _ k3, upd_other _ _ k1, upd_other _ _ k2]
         rw [heq] at ch
         refine After.steps hh (ds := [d, s]) (fun i hi => ?_) ch1 ch
         simp only [List.mem_cons, List.not_mem_nil, or_false] at hi
         rcases hi with rfl | rfl
         ·exact .inl hda
         ·refine .inr ?_
          simp only [putH]
          rw [upd_other _ _ hne3.symm, upd_same]
       ·exact hQ.elim
      ·exact hQ.elim
     ·exact hQ.elim
    ·exact hQ.elim
   ·exact WayOk.fail
  ·exact WayOk.fail
 ·exact wAppendB_ok hT hh hX hY ex

theorem pureL_all2 : ∀ {ns : List LV} {cs : List Value} {G : List Nat}, ns.all pureL = true → RepL (OL1 m.Z w) ns cs G → All2 (LRep m w H) ns cs
 | [], _, _, _, ⟨h, _⟩ => by subst h; trivial
 | l :: ns, _, _, hp, ⟨c1, c2, K1, K2, z1, z2, ⟨u, z3, z4⟩, z5⟩ => by
  rw [List.all_cons, Bool.and_eq_true] at hp
  subst z1; subst z3
  refine ⟨?_, pureL_all2 hp.2 z5⟩
  cases l with
  | v τ x =>
   have := Rep.pure hp.1 z4
   subst this; exact z4
  | nils => exact z4.1
  | nilm => exact z4.1
  | nilp => exact z4.1
  | _ => exact absurd hp.1 (by simp [pureL])
theorem wLoadR_ok (hT : TabOk P tab) (hh : HOk B m H w) {t : Nat} {x : Operand} (ho : o.op = .load t x) {X : AV} (hX : AVRep m w H X (a.eval x)) : WayOk P B m H w o a (wLoadR tab o.dst t X) := by
 have ex : ∀ {v}, (Instr.loadAt t (a.eval x)).run P w = .ok v w → (execOp a.eval o).run P w = .ok (.value v) w := fun h => by
  simp only [execOp, ho, Sem.run_bind, h, Result.andThen_ok, Sem.run_pure]
 unfold wLoadR
 split
 ·rename_i id n off
  split
  ·rename_i i hi
   intro Q hQ
   simp only at hQ
   split at hQ
   ·rename_i e xs hx
    have hx := live_of_only hx
    split at hQ
    ·rename_i ns hn
     split at hQ
     ·rename_i hp
      obtain ⟨b, p, n', cap, k1, k2, k3⟩ := hX.one.2 e xs hx
      have hc := hh.cr id
      rw [hx] at hc
      obtain ⟨g1, ad, cap', cs, F1, F2, g2, g3, g4, g5, g6⟩ := hc
      rcases g6 with ⟨_, _, q, _⟩ | ⟨b', p', blk, el, q1, q2, q3, q4, q5⟩
      ·omega
      ·subst q1
       rw [k1] at g2
       simp only [List.cons.injEq, Value.slice.injEq, Option.some.injEq, Addr.mk.injEq, and_true] at g2
       obtain ⟨⟨rfl, rfl⟩, -, -⟩ := g2
       obtain ⟨cc, G, r1, r2, r3⟩ := g5.at (sz := e.cells) (fun x c F hx => hx.len) n (xs.getD n e.dflt) (by rw [List.getD_eq_getElem?_getD, List.getElem?_eq_getElem k3]; rfl)
       have hcell : ∀ (j : Nat) (u : Value), cc[j]? = some u → w.cell? ⟨b, p + n * e.cells + j, none⟩ = some u := fun j u hu => by
        rw [← r3, List.getElem?_take] at hu
        split at hu
        ·rw [List.getElem?_drop] at hu
         have := q4 _ u hu
         simp only [World.cell?, q2]
         simp only [Nat.add_assoc]
         simpa using this
        ·cases hu
       have fl := flat_ok r1
       obtain ⟨G1, g1, g2⟩ := fl.drop1 ol1_len off
       obtain ⟨G2, g3, g4⟩ := g1.takeN' ol1_len hn
       have hlen : ((cc.drop off).take i.ty.cells).length = i.ty.cells := by
        rw [g3.len (sz := 1) ol1_len, takeN_len hn, Nat.mul_one]
       obtain ⟨v, s1, s2⟩ := load_ok (P := P) (w := w) hT hi (b := b) (p := p + n * e.cells + off) hlen (fun j u hu => by
        rw [List.getElem?_take] at hu
        split at hu
        ·rw [List.getElem?_drop] at hu
         rw [Nat.add_assoc]; exact hcell _ u hu
        ·cases hu)
       exact ⟨_, _, hQ, OpOk.value (ex (by rw [k2]; exact s1)) (After.same hh ⟨_, s2, pureL_all2 hp g3⟩)⟩
     ·exact hQ.elim
    ·exact hQ.elim
   ·exact hQ.elim
  ·exact WayOk.fail
 ·exact wLoadP_ok hT hh ho hX

theorem RepL.splitAt {α : Type} {R : α → List Value → List Nat → Prop} : ∀ {xs : List α} {c : List Value} {F : List Nat} {i : Nat} {x : α}, xs[i]? = some x → RepL R xs c F →
 ∃ l1 l2 c1 ce c2 F1 Fe F2, xs = l1 ++ x :: l2 ∧ l1.length = i ∧ c = c1 ++ (ce ++ c2) ∧ F = F1 ++ (Fe ++ F2) ∧ RepL R l1 c1 F1 ∧ R x ce Fe ∧ RepL R l2 c2 F2
 | [], _, _, _, _, h, _ => by simp at h
 | y :: xs, c, F, 0, x, h, ⟨c1, c2, F1, F2, h1, h2, h3, h4⟩ => by
  simp at h; subst h
  exact ⟨[], xs, [], c1, c2, [], F1, F2, rfl, rfl, h1, h2, ⟨rfl, rfl⟩, h3, h4⟩
 | y :: xs, c, F, i + 1, x, h, ⟨c1, c2, F1, F2, h1, h2, h3, h4⟩ => by
  simp at h
  obtain ⟨l1, l2, d1, de, d2, G1, Ge, G2, e1, e2, e3, e4, e5, e6, e7⟩ := RepL.splitAt h h4
  exact ⟨y :: l1, l2, c1 ++ d1, de, d2, F1 ++ G1, Ge, G2, by rw [e1]; rfl, by simp [e2], by rw [h1, e3, List.append_assoc], by rw [h2, e4, List.append_assoc], ⟨c1, d1, F1, G1, rfl, rfl, h3, e5⟩, e6, e7⟩
theorem EvoAt.rest_ {id : Nat} {e : Ty} {l1 l2 : List e.den} {c1 c2 : List Value} (h : H' id = .live (.rest e l1 l2 c1 c2)) : EvoAt m H w m' H' w' id :=
 ⟨by rw [h]; exact (fun hh => by cases hh), fun _ _ hh => by rw [h] at hh; (cases hh), fun _ _ hh => by rw [h] at hh; (cases hh), fun _ _ hh => by rw [h] at hh; (cases hh), fun _ _ _ hh => by rw [h] at hh; (cases hh), fun _ _ _ hh => by rw [h] at hh; (cases hh), fun _ _ _ _ hh => by rw [h] at hh; (cases hh), fun _ _ _ _ _ hh => by rw [h] at hh; (cases hh), fun _ _ hh => by rw [h] at hh; (cases hh)⟩
theorem EvoAt.still {id : Nat} (h : H' id = H id) (hd : m'.hd id = m.hd id) (hab : H id ≠ .absent) : EvoAt m H w m' H' w id :=
 ⟨by rw [h]; exact hab, fun g ls hh => ⟨hd, g, ls, by rw [← h]; exact hh, Nat.le_refl _, fun _ off e xs hx => ⟨xs, hx, rfl, fun _ _ _ => rfl⟩⟩, fun e xs hh => ⟨hd, xs, by rw [← h]; exact hh, rfl⟩, fun e xs hh => ⟨hd, .inl (by rw [← h]; exact hh)⟩, fun k e mm hh => ⟨hd, mm, by rw [← h]; exact hh⟩, fun k e mm hh => ⟨hd, .inl (by rw [← h]; exact hh)⟩, fun k e c r hh => ⟨hd, c, r, by rw [← h]; exact hh⟩, fun g k e mm ho hh => ⟨hd, g, mm, ho, by rw [← h]; exact hh, Nat.le_refl _, fun _ _ _ => rfl⟩, fun g ls hh => ⟨g, ls, by rw [← h]; exact hh, fun _ _ _ _ _ => rfl, fun off hl => ⟨hl, fun _ _ => rfl⟩⟩⟩
theorem Evo.at_ (ev : Evo m H w m' H' w') {id : Nat} (hab : H id ≠ .absent) : EvoAt m H w m' H' w' id :=
 ⟨ev.ab id hab, ev.cells id hab, ev.row id hab, ev.frz id hab, ev.map id hab, ev.frzm id hab, ev.itr id hab, ev.mapb id hab, ev.cst id hab⟩
theorem EvoAt.heap {K K' : Hp} {id : Nat} (h1 : K id = H id) (h2 : K' id = H' id) (e : EvoAt m H w m' H' w' id) : EvoAt m K w m' K' w' id := by
 obtain ⟨a1, a2, a3, a4, a5, a6, a7, a8, a9⟩ := e
 refine ⟨?_, ?_, ?_, ?_, ?_, ?_, ?_, ?_, ?_⟩
 ·rw [h2]; exact a1
 ·rw [h1, h2]; exact a2
 ·rw [h1, h2]; exact a3
 ·rw [h1, h2]; exact a4
 ·rw [h1, h2]; exact a5
 ·rw [h1, h2]; exact a6
 ·rw [h1, h2]; exact a7
 ·rw [h1, h2]; exact a8
 ·rw [h1, h2]; exact a9
theorem Evo.but (ev : Evo m H w m' H' w') (id : Nat) : Evo m (upd H id .absent) w m' (upd H' id .absent) w' :=
 Evo.of_at ev.z fun j hj => by
  have hji : j ≠ id := fun e => hj (by rw [e, upd_same])
  rw [upd_other _ _ hji] at hj
  exact (ev.at_ hj).heap (upd_other _ _ hji) (upd_other _ _ hji)
theorem Evo.of_but {id : Nat} (ev : Evo m (upd H id .absent) w m' (upd H' id .absent) w') (h : EvoAt m H w m' H' w' id) : Evo m H w m' H' w' :=
 Evo.of_at ev.z fun j hj => by
  by_cases hji : j = id
  ·subst hji; exact h
  ·exact (ev.at_ (id := j) (by rw [upd_other _ _ hji]; exact hj)).heap (upd_other _ _ hji).symm (upd_other _ _ hji).symm
theorem HOk.rebase {fr : Nat → List Value × List Value} (h : HOk B m H w) (hf : ∀ id g ls b, H id = .live (.cells g ls) → g % 2 ≠ 0 → b ∈ m.ft id → fr b = B.fr b) : HOk { B with fr := fr } m H w := by
 refine ⟨h.zl, h.zs, h.zi, fun id => ?_, h.nd, h.sp, h.nz, h.kp⟩
 have hc := h.cr id
 cases hx : H id with
 | absent => trivial
 | dead => trivial
 | frz e xs => rw [hx] at hc; exact hc
 | frzm k e mm => rw [hx] at hc; exact hc
 | live ob =>
  rw [hx] at hc
  cases ob with
  | cells g ls =>
   obtain ⟨b, el, cs, F', k1, k2, k3, k4⟩ := hc
   have : frm { B with fr := fr } g b = frm B g b := by
    unfold frm
    by_cases hg : g % 2 = 0
    ·rw [if_pos hg, if_pos hg]
    ·rw [if_neg hg, if_neg hg]
     exact hf id g ls b hx hg (by rw [k2]; simp)
   exact ⟨b, el, cs, F', by rw [this]; exact k1, k2, by rw [this]; exact k3, k4⟩
  | row e xs => exact hc
  | mapo k e mm => exact hc
  | iter k e c r => exact hc
  | mapb g k e mm ho => exact hc
  | rest e l1 l2 c1 c2 => exact hc
theorem mid_eq {l cs : List Value} {p : Nat} (h : ∀ (j : Nat) (u : Value), cs[j]? = some u → l[p + j]? = some u) (hl : p + cs.length ≤ l.length) : l = l.take p ++ (cs ++ l.drop (p + cs.length)) := by
 have : (l.drop p).take cs.length = cs := by
  apply List.ext_getElem?
  intro j
  rw [List.getElem?_take, List.getElem?_drop]
  split
  ·rename_i hj
   rw [h j cs[j] (List.getElem?_eq_getElem hj)]
   exact (List.getElem?_eq_getElem hj).symm
  ·rw [List.getElem?_eq_none (by omega)]
 conv => lhs; rw [← List.take_append_drop p l, ← List.take_append_drop cs.length (l.drop p), this, List.drop_drop]
theorem flatL_evo {m2 m3 : Md} {H2 H3 : Hp} (hZ : m3.Z = m2.Z) : ∀ {ls : List LV} {cs : List Value}, ls.all flatL = true → All2 (LRep m2 w H2) ls cs → All2 (LRep m3 w H3) ls cs
 | [], [], _, _ => trivial
 | l :: ls, c :: cs, hp, h => by
  rw [List.all_cons, Bool.and_eq_true] at hp
  refine ⟨?_, flatL_evo hZ hp.2 h.2⟩
  have h1 := h.1
  cases l with
  | v τ x => exact (show Rep m3.Z w τ x [c] [] by rw [hZ]; exact h1)
  | _ => exact absurd hp.1 (by simp [flatL])
theorem flatTup_evo {m2 m3 : Md} {H2 H3 : Hp} (hZ : m3.Z = m2.Z) : ∀ {vs : List (Bool × List LV)} {us : List Value}, (vs.all fun p => p.2.all flatL) = true → All2 (PRep m2 w H2) vs us → All2 (PRep m3 w H3) vs us
 | [], [], _, _ => trivial
 | p :: vs, u :: us, hp, h2 => by
  rw [List.all_cons, Bool.and_eq_true] at hp
  obtain ⟨cs, k1, k2⟩ := h2.1
  exact ⟨⟨cs, k1, flatL_evo hZ hp.1 k2⟩, flatTup_evo hZ hp.2 h2.2⟩
theorem flatAV_evo {m2 m3 : Md} {H2 H3 : Hp} (hZ : m3.Z = m2.Z) {v : AV} {u : Value} (hp : flatAV v = true) (h : AVRep m2 w H2 v u) : AVRep m3 w H3 v u := by
 cases v with
 | val g ls =>
  obtain ⟨cs, h1, h2⟩ := h
  exact ⟨cs, h1, flatL_evo hZ hp h2⟩
 | tup vs =>
  obtain ⟨us, h1, h2⟩ := h
  exact ⟨us, h1, flatTup_evo hZ hp h2⟩
 | undef => cases hp
 | junk => cases hp
theorem wCallR_ok {F : FunE} {f : FuncId} (hF : FunOk P f F) (hh : HOk B m H w) {as_ : List AV} {vs : List Value} (hv : All2 (AVRep m w H) as_ vs) (ex : (execOp a.eval o).run P w = .ok (.enter f vs.toArray) w) : WayOk P B m H w o a (wCallR F o.dst as_) := by
 unfold wCallR
 split
 ·rename_i id i as'
  generalize hdd : 600000 + o.dst.getD 99999 = d
  match vs, hv with
  | c :: vs', hv =>
   intro Q hQ
   simp only at hQ
   generalize hcore : wCallF F o.dst (.val false [.ptr d 0] :: as') = core at hQ
   split at hQ
   ·rename_i e xs hx
    have hx := live_of_only hx
    split at hQ
    ·rename_i hc
     simp only [Bool.and_eq_true, Bool.not_eq_true'] at hc
     obtain ⟨c1, c2⟩ := hc
     have hda : H d = .absent := absent_of c1 (by simp)
     have hidn := memN_false.1 c2
     simp only [List.mem_cons, not_or] at hidn
     obtain ⟨hne, hidn⟩ := hidn
     have hQ := Tst.can_bind hQ
     have hL : (H id).Live := by rw [hx]; trivial
     obtain ⟨b, p, n', cap, k1, k2, k3⟩ := hv.1.one.2 e xs hx
     have hcr := hh.cr id
     rw [hx] at hcr
     obtain ⟨g1, ad, cap', cs, F1, F2, g2, g3, g4, g5, g6⟩ := hcr
     rcases g6 with ⟨_, _, q, _⟩ | ⟨b', p', blk, el, q1, q2, q3, q4, q5⟩
     ·omega
     subst q1
     rw [k1] at g2
     simp only [List.cons.injEq, Value.slice.injEq, Option.some.injEq, Addr.mk.injEq, and_true] at g2
     obtain ⟨⟨rfl, rfl⟩, rfl, rfl⟩ := g2
     have hxi : xs[i]? = some (xs.getD i e.dflt) := by rw [List.getD_eq_getElem?_getD, List.getElem?_eq_getElem k3]; rfl
     generalize hxx : xs.getD i e.dflt = x at hxi hQ
     obtain ⟨l1, l2, d1, de, d2, G1, Ge, G2, s1, s2, s3, s4, s5, s6, s7⟩ := g5.splitAt hxi
     have hcl := g5.len (sz := e.cells) (fun x c F hx => hx.len)
     have hd1 := s5.len (sz := e.cells) (fun x c F hx => hx.len)
     rw [s2] at hd1
     have hcap : cs.length ≤ cap * e.cells := by rw [hcl]; exact Nat.mul_le_mul_right _ g3
     have hmid := mid_eq (l := blk.toList) (cs := cs) (p := p) (fun j u hu => by simpa using q4 j u hu) (by simp; omega)
     generalize hpre : blk.toList.take p ++ d1 = pre at *
     generalize hpost : d2 ++ blk.toList.drop (p + cs.length) = post at *
     have hprel : pre.length = p + i * e.cells := by rw [← hpre, List.length_append, List.length_take, hd1]; simp; omega
     have hblk : blk = (pre ++ de ++ post).toArray := by
      apply Array.ext'
      rw [hmid, s3, ← hpre, ← hpost]
      simp [s3]
     have hft : m.ft id = b :: (G1 ++ (Ge ++ G2)) := by rw [g4, q5, s4]; rfl
     have hnd := hh.nd id hL
     rw [hft] at hnd
     have hnd2 := List.nodup_cons.1 hnd
     have hperm : (G1 ++ (Ge ++ G2)).Perm ((G1 ++ G2) ++ Ge) := by
      rw [List.append_assoc]
      exact List.Perm.append_left _ List.perm_append_comm
     have hnd3 := hperm.nodup_iff.1 hnd2.2
     rw [List.nodup_append] at hnd3
     have hsep : ∀ j, j ≠ id → (H j).Live → b ∉ m.ft j := fun j hj hjl => hh.sp id j (Ne.symm hj) hL hjl b (by rw [hft]; simp)
     have hhB := hh.rebase (fr := fun z => if z = b then (pre, post) else B.fr z) (fun j g ls z hj hg hz => by
      have : z ≠ b := fun ez => hsep j (fun ej => by rw [ej, hx] at hj; cases hj) (by rw [hj]; trivial) (ez ▸ hz)
      simp [this])
     generalize hB' : ({ B with fr := fun z => if z = b then (pre, post) else B.fr z } : Base) = B' at hhB
     have hfrb : ∀ g, g % 2 = 1 → frm B' g b = (pre, post) := fun g hg => by
      unfold frm
      rw [if_neg (by omega), ← hB']
      simp
     have hfrz : ∀ z, z ≠ b → B'.fr z = B.fr z := fun z hz => by rw [← hB']; simp [hz]
     have hc' : c = .pointer (some ⟨b, pre.length + 0, none⟩) := by rw [k2, hprel, Nat.add_zero]
     have mem1 : ∀ z, z ∈ G1 ++ G2 ∨ z ∈ b :: Ge → z ∈ m.ft id := fun z hz => by
      rw [hft]
      simp only [List.mem_cons, List.mem_append] at hz ⊢
      rcases hz with (h | h) | h | h <;> simp [h]
     -- the element is taken out
     have ch1 := Change.two (m := m) hhB (id := id) (d := d) hne hL (ob := .rest e l1 l2 d1 d2) (c := .live (.cells 1 (flat e x))) (G1 := G1 ++ G2) (G2 := b :: Ge) (hdr := .pointer (some ⟨b, pre.length, none⟩)) (fun z hz => .inl (mem1 z hz)) hnd3.1 ?_ (fun _ z hz hz2 => ?_)
      ⟨G1, G2, rfl, s5, s7⟩ ?_ (EvoAt.rest_ (upd_same _ _ _)) (fun h => absurd hda h)
     rotate_left
     ·rw [List.nodup_cons]
      exact ⟨fun h => hnd2.1 (hperm.symm.subset (List.mem_append_right _ h)), hnd3.2.1⟩
     ·rcases List.mem_cons.1 hz2 with rfl | hz2
      ·exact hnd2.1 (hperm.symm.subset (List.mem_append_left _ hz))
      ·exact hnd3.2.2 z hz z hz2 rfl
     ·simp only [CRep]
      rw [upd_same, upd_same]
      exact ⟨b, el, de, Ge, by rw [hfrb 1 rfl], rfl, by rw [hfrb 1 rfl, ← hblk]; exact q2, flat_ok s6⟩
     have hh1 := hhB.change ch1
     have ev1 := hhB.evo ch1
     generalize hm1 : ({ Z := m.Z, hd := upd m.hd d (.pointer (some ⟨b, pre.length, none⟩)), ft := upd (upd m.ft id (G1 ++ G2)) d (b :: Ge) } : Md) = M1 at hh1 ev1
     generalize hH1 : upd (upd H d (.live (.cells 1 (flat e x)))) id (.live (.rest e l1 l2 d1 d2)) = H1 at hh1 ev1
     have H1d : H1 d = .live (.cells 1 (flat e x)) := by rw [← hH1, upd_other _ _ (Ne.symm hne), upd_same]
     have H1id : H1 id = .live (.rest e l1 l2 d1 d2) := by rw [← hH1, upd_same]
     have M1d : M1.hd d = .pointer (some ⟨b, pre.length, none⟩) := by rw [← hm1]; exact upd_same _ _ _
     have call := wCallF_ok (a := a) (o := o) hF hh1 (as_ := .val false [.ptr d 0] :: as') (vs := c :: vs') ⟨AVRep.mk1 ⟨by rw [H1d]; simp, fun _ _ _ => ⟨b, _, M1d, hc'⟩⟩, hv.2.mono fun _ _ h => h.evo ev1⟩ ex
     rw [hcore] at call
     have heq : only (upd (only H ([] ++ id :: d :: (core.rd ++ core.wr))) d (.live (.cells 1 (flat e x)))) (core.rd ++ core.wr) = only H1 (core.rd ++ core.wr) := by
      funext n
      unfold only
      cases hn : memN n (core.rd ++ core.wr) with
      | false => rfl
      | true =>
       simp only
       have hnm := memN_iff.1 hn
       have hni : n ≠ id := fun e => hidn (e ▸ hnm)
       by_cases hnd' : n = d
       ·subst hnd'
        rw [upd_same, H1d]
       ·rw [upd_other _ _ hnd', ← hH1, upd_other _ _ hni, upd_other _ _ hnd']
        have : memN n ([] ++ id :: d :: (core.rd ++ core.wr)) = true := memN_iff.2 (by
         rw [List.nil_append]
         exact List.mem_cons_of_mem _ (List.mem_cons_of_mem _ hnm))
        rw [this]
     rw [heq] at hQ
     obtain ⟨v, ups, hQ2, hop⟩ := call _ hQ
     simp only at hQ2
     split at hQ2
     ·rename_i gg ls hls hall hflat
      split at hQ2
      ·rename_i y hy hod
       refine ⟨_, _, hQ2, ?_⟩
       unfold OpOk at hop ⊢
       rw [ex] at hop ⊢
       refine hop.mono fun e' w' ⟨v', he', hA⟩ => ⟨v', he', ?_⟩
       obtain ⟨m2, hh2, ev2, hv2⟩ := hA
       have hkeys := memN_all hall
       have hidk : id ∉ ups.map (·.1) := fun h => hidn (List.mem_append_right _ (hkeys id h))
       have hdk : d ∈ ups.map (·.1) := by
        apply Classical.byContradiction
        intro hn
        rw [putH_notin hn] at hls
        cases hls
       generalize hH2 : putH H1 ups = H2 at hh2 ev2 hv2
       have H2id : H2 id = .live (.rest e l1 l2 d1 d2) := by rw [← hH2, putH_notin hidk, H1id]
       have H2d : H2 d = .live (.cells gg ls) := by rw [← hH2, putH_indep (H' := fun _ => .absent) hdk, hls]
       have L2 : (H2 id).Live := by rw [H2id]; trivial
       have Ld : (H2 d).Live := by rw [H2d]; trivial
       have hod := Nat.eq_of_beq_eq_true hod
       obtain ⟨q2', _⟩ := ev2.cells d (by rw [H1d]; simp) _ _ H2d
       have cr := hh2.cr id
       rw [H2id] at cr
       obtain ⟨K1, K2, r2, r3, r4⟩ := cr
       have crd := hh2.cr d
       rw [H2d] at crd
       obtain ⟨bx, el2, ce2, Fe2, t1, t2, t3, t4⟩ := crd
       rw [q2', M1d] at t1
       simp only [Value.pointer.injEq, Option.some.injEq, Addr.mk.injEq, and_true] at t1
       obtain ⟨rfl, _⟩ := t1
       rw [hfrb gg hod] at t3
       have hyr := asmAllO hy t4
       have nid := hh2.nd id L2
       rw [r2, List.nodup_append] at nid
       have ndd := hh2.nd d Ld
       rw [t2, List.nodup_cons] at ndd
       have dis : ∀ z ∈ m2.ft id, z ∉ m2.ft d := fun z hz => hh2.sp id d hne L2 Ld z hz
       rw [r2, t2] at dis
       have hset : xs.set i y = l1 ++ y :: l2 := by rw [s1, ← s2]; simp
       have hlen2 : (l1 ++ y :: l2).length = xs.length := by rw [s1]; simp
       have hyl := hyr.len
       have hel := s6.len
       have hrow : Rep m2.Z w' (.vec e) (xs.set i y) [m.hd id] ([b] ++ (K1 ++ (Fe2 ++ K2))) := by
        rw [hset, k1]
        refine ⟨by rw [hlen2]; exact g1, some ⟨b, p, none⟩, cap, d1 ++ (ce2 ++ d2), [b], K1 ++ (Fe2 ++ K2), by rw [hlen2], by rw [hlen2]; exact g3, rfl, RepL.append r3 ⟨ce2, d2, Fe2, K2, rfl, rfl, hyr, r4⟩, .inr ⟨b, p, _, el2, rfl, t3, ?_, fun j u hu => ?_, rfl⟩⟩
        ·have : blk.size = pre.length + de.length + post.length := by rw [hblk]; simp; omega
         simp only [List.size_toArray, List.length_append]
         omega
        ·rw [List.getElem?_toArray, ← hpre, ← hpost]
         have htl : (blk.toList.take p).length = p := by rw [List.length_take]; simp; omega
         rw [show (blk.toList.take p ++ d1) ++ ce2 ++ (d2 ++ blk.toList.drop (p + cs.length)) = blk.toList.take p ++ ((d1 ++ (ce2 ++ d2)) ++ blk.toList.drop (p + cs.length)) by simp]
         rw [List.getElem?_append_right (by omega), htl, show p + j - p = j by omega, List.getElem?_append_left (List.getElem?_eq_some_iff.1 hu).1]
         exact hu
       let m3 : Md := { Z := m2.Z, hd := upd m2.hd id (m.hd id), ft := upd (upd m2.ft d []) id ([b] ++ (K1 ++ (Fe2 ++ K2))) }
       have ch3 : Change0 B' m2 H2 w' [id, d] m3 (upd (upd H2 d .dead) id (.live (.row e (xs.set i y)))) w' := by
        have e1 : upd (upd H2 d .dead) id (.live (.row e (xs.set i y))) id = .live (.row e (xs.set i y)) := upd_same _ _ _
        have e2 : upd (upd H2 d .dead) id (.live (.row e (xs.set i y))) d = .dead := by rw [upd_other _ _ (Ne.symm hne), upd_same]
        have f1 : m3.ft id = [b] ++ (K1 ++ (Fe2 ++ K2)) := upd_same _ _ _
        have hin : ∀ z ∈ [b] ++ (K1 ++ (Fe2 ++ K2)), (z ∈ m2.ft id) ∨ z ∈ m2.ft d := fun z hz => by
         rw [r2, t2]
         simp only [List.mem_append, List.mem_cons, List.not_mem_nil, or_false] at hz ⊢
         rcases hz with h | h | h | h <;> simp [h]
        refine ⟨rfl, rfl, rfl, Nat.le_refl _, fun k hk => ?_, fun _ _ _ => rfl, fun _ h => h, fun _ h => .inl h, fun k hk => ?_, fun k hk hl z hz => ?_, fun k hk hl => ?_, fun k hk j hj hkj hlk hlj => ?_⟩
        all_goals simp only [List.mem_cons, List.not_mem_nil, or_false, not_or] at *
        ·exact ⟨by rw [upd_other _ _ hk.1, upd_other _ _ hk.2], upd_other _ _ hk.1, by show upd _ _ _ _ = _; rw [upd_other _ _ hk.1, upd_other _ _ hk.2]⟩
        ·rcases hk with rfl | rfl
         ·rw [e1]
          show Rep m2.Z w' (.vec e) (xs.set i y) [upd m2.hd k (m.hd k) k] (m3.ft k)
          rw [upd_same, f1]
          exact hrow
         ·rw [e2]; trivial
        ·rcases hk with rfl | rfl
         ·rw [f1] at hz
          rcases hin z hz with h | h
          ·exact ⟨(hh2.nz k L2 z h).1, .inl ⟨k, by simp, L2, h⟩⟩
          ·exact ⟨(hh2.nz d Ld z h).1, .inl ⟨d, by simp, Ld, h⟩⟩
         ·rw [e2] at hl; exact hl.elim
        ·rcases hk with rfl | rfl
         ·rw [f1]
          have hp : ([b] ++ (K1 ++ (Fe2 ++ K2))).Perm ((K1 ++ K2) ++ (b :: Fe2)) := by
           have p1 : (K1 ++ (Fe2 ++ K2)).Perm ((K1 ++ K2) ++ Fe2) := by
            rw [List.append_assoc]
            exact List.Perm.append_left _ List.perm_append_comm
           exact (p1.cons b).trans List.perm_middle.symm
          rw [hp.nodup_iff, List.nodup_append]
          exact ⟨List.nodup_append.2 nid, List.nodup_cons.2 ndd, fun z hz z2 hz2 e => (List.mem_cons.1 (e ▸ hz2 : z ∈ b :: Fe2)).elim (dis z hz).1 (dis z hz).2⟩
         ·rw [e2] at hl; exact hl.elim
        ·rcases hk with rfl | rfl <;> rcases hj with rfl | rfl
         ·exact absurd rfl hkj
         ·rw [e2] at hlj; exact hlj.elim
         ·rw [e2] at hlk; exact hlk.elim
         ·exact absurd rfl hkj
       have hh3 := hh2.change0 ch3
       have hfin : putH H (ups ++ [(d, .dead), (id, .live (.row e (xs.set i y)))]) = upd (upd H2 d .dead) id (.live (.row e (xs.set i y))) := by
        rw [putH_append]
        simp only [putH]
        funext n
        by_cases h1 : n = id
        ·subst h1; rw [upd_same, upd_same]
        ·rw [upd_other _ _ h1, upd_other _ _ h1]
         by_cases h2 : n = d
         ·subst h2; rw [upd_same, upd_same]
         ·rw [upd_other _ _ h2, upd_other _ _ h2, ← hH2]
          exact putH_agree (by rw [← hH1, upd_other _ _ h1, upd_other _ _ h2])
       generalize hH3 : upd (upd H2 d .dead) id (.live (.row e (xs.set i y))) = H3 at hh3 hfin
       have H3id : H3 id = .live (.row e (xs.set i y)) := by rw [← hH3]; exact upd_same _ _ _
       have L3 : (H3 id).Live := by rw [H3id]; trivial
       have f3 : m3.ft id = [b] ++ (K1 ++ (Fe2 ++ K2)) := upd_same _ _ _
       have hback := hh3.rebase (fr := B.fr) (fun j g ls z hj hg hz => by
        have : z ≠ b := fun ez => hh3.sp id j (fun ej => by rw [← ej, H3id] at hj; cases hj) L3 (by rw [hj]; trivial) z (by rw [f3, ez]; simp) hz
        exact (hfrz z this).symm)
       have hBB : ({ B' with fr := B.fr } : Base) = B := by rw [← hB']
       rw [hBB] at hback
       unfold After
       rw [hfin]
       refine ⟨m3, hback, Evo.of_but (id := id) (((ev1.but id).trans (ev2.but id)).trans (Evo.of_at (fun z hz => ⟨hz, rfl⟩) fun j hj => ?_)) (EvoAt.row_ hx H3id (by simp) (upd_same _ _ _)), flatAV_evo (m2 := m2) (m3 := m3) rfl hflat hv2⟩
       have hji : j ≠ id := fun e => hj (by rw [e, upd_same])
       by_cases hjd : j = d
       ·subst hjd
        exact EvoAt.dead (by rw [upd_other _ _ hji, ← hH3, upd_other _ _ hji, upd_same])
       ·refine EvoAt.still ?_ (upd_other _ _ hji) hj
        rw [upd_other _ _ hji, upd_other _ _ hji, ← hH3, upd_other _ _ hji, upd_other _ _ hjd]
      ·exact hQ2.elim
     ·exact hQ2.elim
    ·exact hQ.elim
   ·exact hQ.elim
 ·exact wCallM_ok hF hh hv ex
end
end Go.Proofs.Ytodnfnnfjnnhmaa.A

-- YtodnfnnfjnnhmaaFn4
set_option linter.unusedVariables false
set_option linter.unusedSimpArgs false
namespace Go.Proofs.Ytodnfnnfjnnhmaa.A
open Go
section
variable {P : Program} {B : Base} {m m' m0 : Md} {H H' : Hp} {w w' : World} {o : Oper} {a : Act} {E : Env} {tab : Nat → Option TI} {N : Nat}

structure PInv (B : Base) (Z : Nat → Prop) (w : World) (vals : Nat → Value) (t0 : Nat) (m : Md) (es : List (Nat × AV)) (hs : List (Nat × Cell)) (F : List Nat) : Prop where
 h : HOk B m (ofL .absent hs) w
 z : m.Z = Z
 t : ∀ k, AVRep m w (ofL .absent hs) (ofL .junk es k) (vals k)
 own : ∀ k, (ofL .absent hs k).Live → ∀ b ∈ m.ft k, b ∈ F
 ks : ∀ k ∈ hs.map (·.1), ∃ t, t0 ≤ t ∧ k = headId t
theorem pinv_put {m : Md} {H : Hp} {es : List (Nat × AV)} {vals : Nat → Value} (h : ∀ t, AVRep m w H (ofL .junk es t) (vals t)) {t0 : Nat} {v : AV} (hv : AVRep m w H v (vals t0)) (t : Nat) : AVRep m w H (ofL .junk ((t0, v) :: es) t) (vals t) := by
 rw [ofL_cons]
 by_cases ht : t = t0
 ·subst ht; rw [upd_same]; exact hv
 ·rw [upd_other _ _ ht]; exact h t
theorem par_plain {t : Nat} {τ : Ty} {x : τ.den} (h : τ.vecP = false) (hp : τ.pure = true) : parAV t false τ x = (.val (!τ.one) (flat τ x), []) := by
 cases τ <;> first | rfl | cases hp
theorem pars_ok {Z : Nat → Prop} (h0 : ∀ m : Md, m.Z = Z → HOk B m (fun _ => .absent) w) {vals : Nat → Value} : ∀ {ps : List (Bool × Ty)} {t : Nat} {x : (ps.foldr (fun p t => Ty.pair p.2 t) .unit).den} {vs : List Value} {F : List Nat},
 ArgsRep B.fr Z w ps x vs F → F.Nodup → (∀ b ∈ F, ¬ Z b ∧ b < w.heap.size ∧ (b < B.w.heap.size → b ∈ B.F)) → (ps.all fun p => p.1 || p.2.pure || p.2.vecP) = true → (∀ (i : Nat) (v : Value), vs[i]? = some v → vals (t + i) = v) →
 ∃ m, PInv B Z w vals t m (pars t ps x).1 (pars t ps x).2 F
 | [], t, x, vs, F, _, _, _, _, _ => ⟨{ Z := Z, hd := fun _ => undef, ft := fun _ => [] }, h0 _ rfl, rfl, fun _ => trivial, fun _ h => h.elim, by simp [pars]⟩
 | (io, τ) :: ps, t, x, vs, F, ⟨v, vs', F1, F2, h1, h2, h3, h4⟩, hn, hF, hk, hv => by
  subst h1; subst h2
  rw [List.all_cons, Bool.and_eq_true] at hk
  rw [List.nodup_append] at hn
  obtain ⟨m, K⟩ := pars_ok h0 (t := t + 1) h4 hn.2.1 (fun b hb => hF b (by simp [hb])) hk.2 (fun i v hi => by have := hv (i + 1) v (by simpa using hi); rwa [show t + (i + 1) = t + 1 + i by omega] at this)
  have hval : vals t = v := hv 0 v (by simp)
  have hfresh : ofL .absent (pars (t + 1) ps x.2).2 (headId t) = .absent := ofL_absent _ fun hm => by
   obtain ⟨t', h1, h2⟩ := K.ks _ hm
   have := headId_inj h2
   omega
  -- an object under this place's name
  have obj : ∀ {ob : Obj} {hdr : Value} {av : AV}, ORep B Z w ob hdr F1 → parAV t io τ x.1 = (av, [(headId t, .live ob)]) → (∀ (m1 : Md) (H1 : Hp), m1.hd (headId t) = hdr → H1 (headId t) = .live ob → AVRep m1 w H1 av (vals t)) → ∃ m, PInv B Z w vals t m (pars t ((io, τ) :: ps) x).1 (pars t ((io, τ) :: ps) x).2 (F1 ++ F2) := by
   intro ob hdr av hr hp hav
   obtain ⟨q1, q2⟩ := K.h.add hfresh (by rw [K.z]; exact hr) hn.1 (fun b hb => by rw [K.z]; exact hF b (by simp [hb])) (fun j hj b hb hb' => hn.2.2 b hb' b (K.own j hj b hb) rfl)
   refine ⟨m.set (headId t) hdr F1, ?_⟩
   simp only [pars, hp, List.singleton_append]
   refine ⟨q1, K.z, pinv_put (fun k => (K.t k).evo q2) (hav _ _ (by simp only [Md.set]; rw [upd_same]) (upd_same _ _ _)), fun k hk b hb => ?_, fun k hk => ?_⟩
   ·by_cases hk0 : k = headId t
    ·subst hk0
     simp only [Md.set] at hb
     rw [upd_same] at hb
     simp [hb]
    ·rw [ofL_cons, upd_other _ _ hk0] at hk
     simp only [Md.set] at hb
     rw [upd_other _ _ hk0] at hb
     simp [K.own k hk b hb]
   ·simp only [List.map_cons, List.mem_cons] at hk
    rcases hk with rfl | hk
    ·exact ⟨t, Nat.le_refl _, rfl⟩
    ·obtain ⟨t', h1, h2⟩ := K.ks k hk
     exact ⟨t', by omega, h2⟩
  cases io with
  | true =>
   obtain ⟨b, el, cs, F', e1, e2, e3, e4⟩ := h3
   refine obj (ob := .cells 1 (flat τ x.1)) (hdr := .pointer (some ⟨b, (B.fr b).1.length, none⟩)) ⟨b, el, cs, F', rfl, e2, e3, flat_ok e4⟩ rfl fun m1 H1 h1 h2 => one_val ⟨by rw [h2]; simp, fun _ _ _ => ⟨b, _, h1, by rw [hval, e1, Nat.add_zero]⟩⟩
  | false =>
   obtain ⟨cs, e1, e2⟩ := h3
   have hk1 : (τ.pure || τ.vecP) = true := by simpa using hk.1
   by_cases hve : τ.vecP = true
   ·cases τ with
    | vec e =>
     have e1 : cs = [v] := e1
     subst e1
     exact obj (ob := .row e x.1) (hdr := v) e2 rfl fun m1 H1 h1 h2 => one_val ⟨by rw [h2]; simp, fun _ _ _ => by rw [hval, h1], fun _ _ _ => by rw [hval, h1]⟩
    | _ => cases hve
   ·have hve : τ.vecP = false := by simpa using hve
    rw [hve, Bool.or_false] at hk1
    have hF1 := e2.pure hk1
    subst hF1
    refine ⟨m, ?_⟩
    simp only [pars, par_plain hve hk1, List.nil_append]
    refine ⟨K.h, K.z, pinv_put K.t ⟨cs, by rw [hval]; exact e1, flat_all2 (by rw [K.z]; exact e2)⟩, K.own, fun k hk => ?_⟩
    obtain ⟨t', h1, h2⟩ := K.ks k hk
    exact ⟨t', by omega, h2⟩

def resRun (tmps : Array Value) : ResultVar → Sem Value
 | .tmp t => pure (tmps.getD t undef)
 | .cell a t => do loadVar t (← asAddr (tmps.getD a undef))
theorem resVal_ok (hT : TabOk P tab) (s : St B m E H a w) {rv : ResultVar} {p : Bool × List LV} (h : resVal tab H E rv = some p) : ∃ u, (resRun a.tmps rv).run P w = .ok u w ∧ PRep m w H p u := by
 cases rv with
 | tmp t =>
  simp only [resVal] at h
  split at h
  ·rename_i g ls he
   cases h
   have := unpin_ok (s.t t)
   rw [he] at this
   exact ⟨_, by simp [resRun], this⟩
  ·cases h
 | cell ad t =>
  simp only [resVal] at h
  split at h
  ·rename_i i id hi he
   split at h
   ·rename_i g ls hx
    split at h
    ·rename_i hl
     cases h
     have hl := Nat.eq_of_beq_eq_true hl
     have ht := s.t ad
     rw [he] at ht
     obtain ⟨b, qb, q1, q2⟩ := ht.one.2 _ _ hx
     have hc := s.h.cr id
     rw [hx] at hc
     obtain ⟨b', el, cs, F', k1, k2, k3, k4⟩ := hc
     rw [k1] at q1; cases q1
     have hcell : ∀ (j : Nat) (u : Value), cs[j]? = some u → w.cell? ⟨b, (frm B g b).1.length + (0 + j), none⟩ = some u := fun j u hu => by
      rw [Nat.zero_add]
      exact frame_cell k3 hu
     have hls := outLeaves_ok (m := m) (w := w) hx k1 0 k4 (fun j l hj => by simpa using hj) hcell
     have hlen : cs.length = i.ty.cells := by rw [k4.len (sz := 1) ol1_len, Nat.mul_one, hl]
     obtain ⟨v, r1, r2⟩ := load_ok (P := P) (w := w) hT hi (b := b) (p := (frm B g b).1.length) hlen (fun j u hu => frame_cell k3 hu)
     refine ⟨v, ?_, cs, r2, hls⟩
     simp only [resRun, q2, asAddr, Sem.run_bind, Sem.run_pure, Result.andThen_ok]
     simpa [Instr.loadAt, Instr.sureAddr] using r1
    ·cases h
   ·cases h
  ·cases h
theorem resVals_ok (hT : TabOk P tab) (s : St B m E H a w) : ∀ {rvs : List ResultVar} {rs : List (Bool × List LV)}, resVals tab H E rvs = some rs → ∃ us, (rvs.mapM (resRun a.tmps)).run P w = .ok us w ∧ All2 (PRep m w H) rs us
 | [], _, h => by cases h; exact ⟨[], by simp, trivial⟩
 | rv :: rvs, rs, h => by
  simp only [resVals] at h
  split at h
  ·rename_i p ps h1 h2
   cases h
   obtain ⟨u, u1, u2⟩ := resVal_ok hT s h1
   obtain ⟨us, v1, v2⟩ := resVals_ok hT s h2
   refine ⟨u :: us, ?_, u2, v2⟩
   simp [List.mapM_cons, u1, v1]
  ·cases h
theorem results_run {fn : Func} {us : List Value} (h : (fn.results.toList.mapM (resRun a.tmps)).run P w = .ok us w) : (results fn a.tmps).run P w = .ok (tupOf us) w := by
 have e : results fn a.tmps = (do let vs ← fn.results.mapM (resRun a.tmps); pure (if h : vs.size = 1 then vs[0] else .tuple vs)) := by
  unfold results
  congr 1
 rw [e, Array.mapM_eq_mapM_toList]
 simp only [Sem.run_bind, map_eq_pure_bind, h, Result.andThen_ok, Sem.run_pure]
 congr 1
 match us with
 | [] => rfl
 | [u] => rfl
 | u :: v :: us => simp [tupOf]
theorem resOne_ok {Zf : Nat → Prop} (hh : HOk B m H w) (hz : ∀ b, m.Z b → Zf b) {τ : Ty} {g : Bool} {ls : List LV} {x : τ.den} {v : Value} (h : resOne H τ g ls = some x) (hn : nnB H [τ] [(g, ls)] = true) (hv : PRep m w H (g, ls) v) (hr : ∀ id ∈ argRd false τ (.val g ls), (H id).Live → ∀ b ∈ m.ft id, Zf b) :
 (∃ cs, IsV (!τ.one) cs v ∧ Rep Zf w τ x cs ((ownArg false τ (.val g ls)).flatMap m.ft)) ∧ ∀ id ∈ ownArg false τ (.val g ls), (H id).Live := by
 unfold resOne at h
 split at h
 ·rename_i e id
  split at h
  ·rename_i e' xs hx
   unfold slAs at h
   split at h
   ·rename_i hp
    obtain ⟨he, hxs⟩ := castTo_eq h
    cases he
    have hxs : xs = x := hxs
    subst hxs
    have hne : xs ≠ [] := by
     intro e
     subst e
     simp [nnB, nnCell, hx] at hn
    have hL : (H id).Live := by rw [hx]; trivial
    have hv1 := AVRep.one (v := v) (m := m) (w := w) (H := H) (l := .row id) hv
    have hcr := hh.cr id
    rw [hx] at hcr
    refine ⟨⟨[v], rfl, ?_⟩, fun i hi => by simp [ownArg] at hi⟩
    have e1 := hv1.2.1 _ _ hx
    have r := Rep.vec_sl (Z' := Zf) hp hcr hz fun b hb => hr id (by simp [argRd, ownArg, slRds, slRd]) hL b hb
    rw [← e1] at r
    exact ⟨fun h => absurd h hne, r⟩
   ·cases h
  ·cases h
 ·rename_i e id
  split at h
  ·rename_i g0 ls hx
   split at h
   ·rename_i y hy hev
    cases h
    have hL : (H id).Live := by rw [hx]; trivial
    have hv1 := AVRep.one (v := v) (m := m) (w := w) (H := H) (l := .ptr id 0) hv
    obtain ⟨b, qb, q1, q2⟩ := hv1.2 _ _ hx
    have hcr := hh.cr id
    rw [hx] at hcr
    obtain ⟨b', el, cs, F', k1, k2, k3, k4⟩ := (orep_even (Nat.eq_of_beq_eq_true hev)).1 hcr
    rw [k1] at q1; cases q1
    have r := Rep.frame (Z' := Zf) (fun _ _ => rfl) hz (fun _ _ => rfl) (asmAllO hy k4)
    refine ⟨⟨[v], rfl, ?_⟩, fun i hi => by simp [ownArg] at hi; rw [hi]; exact hL⟩
    simp only [ownArg, List.flatMap_cons, List.flatMap_nil, List.append_nil]
    exact ⟨b, el, cs, F', by rw [q2], k2, k3, r⟩
   ·cases h
  ·cases h
 ·cases h
  have hv1 := AVRep.one (v := v) (m := m) (w := w) (H := H) (l := .nilp) hv
  have hv1 : v = .pointer none := hv1
  exact ⟨⟨[v], rfl, by rw [hv1], rfl⟩, fun i hi => by simp [ownArg] at hi⟩
 ·exact ownIn_ok (Sub.refl H) hh hz h hv hr
theorem nnB_head {τ : Ty} {outs : List Ty} {p : Bool × List LV} {rs : List (Bool × List LV)} (h : nnB H (τ :: outs) (p :: rs) = true) : nnB H [τ] [p] = true ∧ nnB H outs rs = true := by
 unfold nnB at h
 split at h
 ·rename_i h1 h2
  cases h1; cases h2
  rw [Bool.and_eq_true] at h
  exact ⟨by simp [nnB, h.2], h.1⟩
 ·rename_i hne h1 h2
  cases h1; cases h2
  refine ⟨?_, h⟩
  unfold nnB
  split
  ·rename_i h3 h4
   cases h3; cases h4
   exact (hne _ _ _ rfl rfl).elim
  ·rename_i h3 h4
   cases h3; cases h4
   rfl
  ·rfl
 ·rename_i k1 k2
  first | exact (k1 _ _ _ _ rfl rfl).elim | exact (k2 _ _ _ _ rfl rfl).elim | exact (k1 _ _ _ _ rfl).elim | exact (k2 _ _ _ _ rfl).elim
theorem resIn_ok {Zf : Nat → Prop} (hh : HOk B m H w) (hz : ∀ b, m.Z b → Zf b) : ∀ {outs : List Ty} {rs : List (Bool × List LV)} {us : List Value} {x : (outs.foldr Ty.pair .unit).den}, resIn H outs rs = some x → nnB H outs rs = true → All2 (PRep m w H) rs us →
 (∀ id ∈ resRds outs rs, (H id).Live → ∀ b ∈ m.ft id, Zf b) → ResL Zf w outs x us ((resOwns outs rs).flatMap m.ft) ∧ ∀ id ∈ resOwns outs rs, (H id).Live
 | [], [], us, x, _, _, hv, _ => by
  have : us = [] := by cases us with | nil => rfl | cons _ _ => exact hv.elim
  subst this
  exact ⟨⟨rfl, rfl⟩, by simp [resOwns]⟩
 | [], _ :: _, _, _, h, _, _, _ => by cases h
 | _ :: _, [], _, _, h, _, _, _ => by cases h
 | τ :: outs, p :: rs, [], _, _, _, hv, _ => hv.elim
 | τ :: outs, p :: rs, u :: us, x, h, hn, hv, hr => by
  obtain ⟨n1, n2⟩ := nnB_head hn
  simp only [resIn] at h
  split at h
  ·rename_i y ys hy hys
   cases h
   obtain ⟨g1, g2⟩ := resIn_ok hh hz hys n2 hv.2 fun id hid => hr id (by simp [resRds, hid])
   obtain ⟨k1, k2⟩ := resOne_ok hh hz hy n1 hv.1 fun id hid => hr id (by simp [resRds, hid])
   refine ⟨⟨u, us, _, _, rfl, ?_, k1, g1⟩, fun id hid => ?_⟩
   ·simp [resOwns, List.flatMap_append]
   ·simp only [resOwns, List.mem_append] at hid
    exact hid.elim (k2 id) (g2 id)
  ·cases h
theorem splitRes_join : ∀ {outs more : List Ty} {x : (outs.foldr Ty.pair .unit).den} {y : (more.foldr Ty.pair .unit).den}, splitRes outs more (joinRes outs more x y) = (x, y)
 | [], _, _, _ => rfl
 | τ :: outs, more, x, y => by
  simp only [joinRes, splitRes, splitRes_join]
  rfl

theorem io_end {Zf : Nat → Prop} (s : St B m E H a w) (hz : ∀ b, m.Z b → Zf b) {fv : Nat → Value} : ∀ {ps : List (Bool × Ty)} {t : Nat} {ids : List Nat} {x : (((ps.filter (·.1)).map (·.2)).foldr Ty.pair .unit).den} {vs : List Value},
 ioIdsOf E (iosOf t ps) = some ids → ioOut H ((ps.filter (·.1)).map (·.2)) ids = some x → (∀ i ∈ iosOf t ps, a.tmps.getD i undef = fv i) → (∀ i, i < ps.length → vs[i]? = some (fv (t + i))) →
 IoRep B.fr Zf w ps x vs (ids.flatMap m.ft) ∧ ∀ id ∈ ids, (H id).Live
 | [], t, ids, x, vs, h1, h2, _, _ => by
  cases h1
  exact ⟨rfl, by simp⟩
 | (false, τ) :: ps, t, ids, x, vs, h1, h2, h3, h4 => by
  refine io_end (ps := ps) (t := t + 1) s hz h1 h2 h3 fun i hi => ?_
  have := h4 (i + 1) (by simp; omega)
  rw [List.getElem?_tail, this]
  congr 2; omega
 | (true, τ) :: ps, t, ids, x, vs, h1, h2, h3, h4 => by
  simp only [iosOf, ioIdsOf] at h1
  split at h1
  ·rename_i id ids' he hi
   cases h1
   have h2 : ioOut H (τ :: ((ps.filter (·.1)).map (·.2))) (id :: ids') = some x := h2
   simp only [ioOut] at h2
   split at h2
   ·rename_i g ls y hx hy
    split at h2
    ·rename_i z hz' hodd
     cases h2
     have hfr : ∀ b, frm B g b = B.fr b := fun b => by unfold frm; rw [if_neg (by have := Nat.eq_of_beq_eq_true hodd; omega)]
     obtain ⟨g1, g2⟩ := io_end (ps := ps) (t := t + 1) (vs := vs.tail) s hz hi hy (fun i hi => h3 i (by simp [iosOf, hi])) (fun i hi => by
      have := h4 (i + 1) (by simp; omega)
      rw [List.getElem?_tail, this]
      congr 2; omega)
     have ht := s.t t
     rw [he, h3 t (by simp [iosOf])] at ht
     obtain ⟨b, qb, e1, e2⟩ := ht.one.2 _ _ hx
     have hL : (H id).Live := by rw [hx]; trivial
     have hc := s.h.cr id
     rw [hx] at hc
     obtain ⟨b', el, cs, F', k1, k2, k3, k4⟩ := hc
     rw [hfr] at k1 k3
     rw [k1] at e1; cases e1
     have hv0 := h4 0 (by simp)
     refine ⟨⟨b, el, cs, F', _, ?_, ?_, k3, Rep.frame (fun _ _ => rfl) hz (fun _ _ => rfl) (asmAllO hz' k4), g1⟩, fun i hi => ?_⟩
     ·rw [List.head?_eq_getElem?, hv0, Nat.add_zero, e2, Nat.add_zero]
     ·rw [List.flatMap_cons, k2]
     ·rcases List.mem_cons.1 hi with rfl | hi
      ·exact hL
      ·exact g2 i hi
    ·cases h2
   ·cases h2
  ·cases h1

theorem fin_ok (hT : TabOk P tab) {fn : Func} {F : FunE} {Z : Nat → Prop} {w0 : World} {Fs : List Nat} {vs : List Value} {fr : Nat → List Value × List Value} (hB : B = { w := w0, F := Fs, Z := Z, fx := iosOf 0 F.ins, fv := fun i => vs.getD i undef, fr := fr }) (hlen : vs.length = F.ins.length) {r : ((F.outs ++ (F.ins.filter (·.1)).map (·.2)).foldr Ty.pair .unit).den} :
 KonOk P B N r (bodyPost P fn fun e w' => ∃ v Z' us Fr Fi, e = .returned v ∧ Post fr Z w0 Fs F vs r v w' Z' us Fr Fi) (finOf tab F.outs ((F.ins.filter (·.1)).map (·.2)) fn.results.toList (iosOf 0 F.ins)) := by
 subst hB
 intro x E H0 a w ⟨m0, s0, hN, hf⟩ h
 obtain ⟨m, s⟩ := packR_ok (outs := F.outs) (vs := fn.results.toList) s0
 generalize hH : packR E F.outs fn.results.toList H0 = H at s
 have key : finOf tab F.outs ((F.ins.filter (·.1)).map (·.2)) fn.results.toList (iosOf 0 F.ins) .normal E H0 = some r → a.defers = [] ∧ ∃ v, (results fn a.tmps).run P w = .ok v w ∧ ∃ v' Z' us Fr Fi, Ending.returned v = .returned v' ∧ Post fr Z w0 Fs F vs r v' w Z' us Fr Fi := by
  intro h
  refine ⟨s.d, ?_⟩
  simp only [finOf, hH] at h
  split at h
  ·rename_i rs ios hrs hios
   split at h
   ·rename_i xa xb hxa hxb
    split at h
    ·rename_i hck
     split at h
     rotate_left
     ·cases h
     rename_i hnn
     cases h
     simp only [Bool.and_eq_true] at hck
     obtain ⟨c1, c2⟩ := hck
     have c1 := nodupN_iff.1 c1
     have c2 : ∀ i ∈ resRds F.outs rs, i ∉ resOwns F.outs rs ++ ios := fun i hi => by
      have := List.all_eq_true.1 c2 i hi
      exact memN_false.1 (by simpa using this)
     obtain ⟨us, u1, u2⟩ := resVals_ok hT s hrs
     let Zf : Nat → Prop := fun b => m.Z b ∨ ∃ id ∈ resRds F.outs rs, (H id).Live ∧ b ∈ m.ft id
     obtain ⟨r1, r2⟩ := resIn_ok (Zf := Zf) s.h (fun b hb => .inl hb) hxa hnn u2 (fun id hid hl b hb => .inr ⟨id, hid, hl, hb⟩)
     obtain ⟨i1, i2⟩ := io_end (Zf := Zf) (fv := fun i => vs.getD i undef) (ps := F.ins) (t := 0) (vs := vs) s (fun b hb => .inl hb) hios hxb (fun i hi => hf i hi) (fun i hi => by
      rw [Nat.zero_add, List.getD_eq_getElem?_getD, List.getElem?_eq_getElem (by omega)]; rfl)
     have hlive : ∀ id ∈ ios ++ resOwns F.outs rs, (H id).Live := fun id hid => (List.mem_append.1 hid).elim (i2 id) (r2 id)
     have hnd : (ios ++ resOwns F.outs rs).Nodup := by
      rw [List.nodup_append] at c1 ⊢
      exact ⟨c1.2.1, c1.1, fun x hx y hy e => c1.2.2 y hy x hx e.symm⟩
     refine ⟨_, results_run u1, _, Zf, us, (resOwns F.outs rs).flatMap m.ft, ios.flatMap m.ft, rfl, s.h.kp, fun b hb => .inl (s.h.zs b hb), fun b hb => ?_, fun b hb hlt => ?_, ?_, rfl, ?_, ?_, fun b hb => ?_⟩
     ·exact hb.elim (s.h.zl b) fun ⟨i, _, h2, h3⟩ => (s.h.nz i h2 b h3).2.1
     ·exact hb.elim (fun hb => s.h.zi b hb hlt) fun ⟨i, _, h2, h3⟩ => .inr ((s.h.nz i h2 b h3).2.2 hlt)
     ·rw [splitRes_join]; exact r1
     ·rw [splitRes_join]; exact i1
     ·rw [← List.flatMap_append]; exact ft_nodup s.h hnd hlive
     ·rw [← List.flatMap_append] at hb
      obtain ⟨i, h1, h2, h3⟩ := ft_blk hb hlive
      obtain ⟨n1, n2, n3⟩ := s.h.nz i h2 b h3
      refine ⟨fun hz => hz.elim n1 fun ⟨j, j1, j2, j3⟩ => ?_, n2, n3⟩
      have hij : i ≠ j := fun e => c2 j j1 (by rw [← e]; rw [List.mem_append] at h1 ⊢; exact h1.symm)
      exact s.h.sp i j hij h2 j2 b h3 j3
    ·cases h
   ·cases h
  ·cases h
 cases x with
 | normal => exact key h
 | ret => exact key h
 | _ => cases h

theorem ArgsRep.len {fr : Nat → List Value × List Value} {Z : Nat → Prop} {w : World} : ∀ {ps : List (Bool × Ty)} {x : (ps.foldr (fun p t => Ty.pair p.2 t) .unit).den} {vs : List Value} {F : List Nat}, ArgsRep fr Z w ps x vs F → vs.length = ps.length
 | [], _, _, _, h => by rw [h.1]; rfl
 | _ :: _, _, _, _, ⟨v, vs', F1, F2, h1, h2, h3, h4⟩ => by rw [h1, List.length_cons, h4.len]; rfl

def fnOkB (fn : Func) (ins : List (Bool × Ty)) : Bool :=
 codeOkB fn.ntmps (iosOf 0 ins) (bodyOf fn) && fn.body.isSome && Nat.ble ins.length fn.ntmps && ins.all fun p => p.1 || p.2.pure || p.2.vecP
theorem fnE_ok (hm : P.follows .mixedOrders = true) (hT : TabOk P tab) {f : FuncId} {fn : Func} (hf : P.funcs[f]? = some fn) {T : Nat → Nat → Option FunE} {ann : Nat → Option (List Keep)} {ins : List (Bool × Ty)} {outs : List Ty} {n : Nat} (hW : ∀ k, k ≤ n → WaysOk P tab (T k)) (hk : fnOkB fn ins = true) : FunOk P f (fnE tab T ann fn ins outs n) := by
 intro fr Z w xs vs Fs r hZ hA hn hFs hr
 simp only [fnOkB, Bool.and_eq_true] at hk
 obtain ⟨⟨⟨k1, k2⟩, k3⟩, k4⟩ := hk
 have k3 := Nat.le_of_ble_eq_true k3
 obtain ⟨c, hc⟩ := Option.isSome_iff_exists.1 k2
 have hbody : bodyOf fn = c := by unfold bodyOf; rw [hc]; rfl
 have hlen : vs.length = ins.length := hA.len
 let B : Base := { w := w, F := Fs, Z := Z, fx := iosOf 0 ins, fv := fun i => vs.getD i undef, fr := fr }
 have h0 : ∀ m : Md, m.Z = Z → HOk B m (fun _ => .absent) w := fun m hmz => ⟨fun b hb => hZ b (by rw [← hmz]; exact hb), fun b hb => (by rw [hmz]; exact hb), fun b hb _ => .inl (by rw [hmz] at hb; exact hb), fun _ => trivial, fun _ h => h.elim, fun _ _ _ h => h.elim, fun _ h => h.elim, Kept.refl _ _⟩
 have htm : ∀ k, ((vs.toArray ++ Array.replicate (fn.ntmps - vs.toArray.size) undef).getD k undef) = vs.getD k undef := fun k => by
  rw [Array.getD_eq_getD_getElem?, List.getD_eq_getElem?_getD, Array.getElem?_append]
  simp only [List.size_toArray]
  by_cases hk : k < vs.length
  ·rw [if_pos hk]; simp
  ·rw [if_neg hk, List.getElem?_eq_none (by omega)]
   simp only [Array.getElem?_replicate]
   split <;> rfl
 obtain ⟨m, K⟩ := pars_ok (B := B) (Z := Z) (w := w) h0 (vals := fun k => vs.getD k undef) (t := 0) hA hn (fun b hb => ⟨(hFs b hb).1, (hFs b hb).2, fun _ => hb⟩) k4 (fun i v hi => by simp [List.getD_eq_getElem?_getD, hi])
 refine calls_of_wp hf hc ?_
 have s : SE B fn.ntmps (ofL .junk (pars 0 ins xs).1) (ofL .absent (pars 0 ins xs).2) { tmps := vs.toArray ++ Array.replicate (fn.ntmps - vs.toArray.size) undef, defers := [] } w := by
  refine ⟨m, ⟨K.h, fun t => ?_, rfl⟩, ?_, fun i _ => htm i⟩
  ·rw [htm]; exact K.t t
  ·simp only [Array.size_append, List.size_toArray, Array.size_replicate]; omega
 have hfin := fin_ok (P := P) (B := B) (N := fn.ntmps) hT (fn := fn) (F := fnE tab T ann fn ins outs n) (Z := Z) (w0 := w) (Fs := Fs) (vs := vs) rfl hlen (r := r)
 have hL := runN_ok (P := P) (B := B) (N := fn.ntmps) (r := r) hm (T := T) (ann := ann) hfin n (fun k hk => hW k (by omega))
 have hcl := clos_ok (ann := ann) hm (hW n (Nat.le_refl _)) hL hfin [] rfl
 have := runS_ok hm (hW n (Nat.le_refl _)) hL (bodyOf fn) [] _ _ _ _ _ k1 rfl hcl s hr
 rw [hbody] at this
 exact this
theorem FunOk.spec {f : FuncId} {F : Nat → FunE} {ins : List (Bool × Ty)} {outs : List Ty} {g : (ins.foldr (fun p t => Ty.pair p.2 t) .unit).den → Option ((outs ++ (ins.filter (·.1)).map (·.2)).foldr Ty.pair .unit).den} (hF : ∀ n, FunOk P f (F n)) (hi : ∀ n, (F n).ins = ins) (ho : ∀ n, (F n).outs = outs) : True := trivial
end
end Go.Proofs.Ytodnfnnfjnnhmaa.A

-- YtodnfnnfjnnhmaaFn5
set_option linter.unusedVariables false
set_option linter.unusedSimpArgs false
namespace Go.Proofs.Ytodnfnnfjnnhmaa.A
open Go
def RowOk (P : Program) (f : FuncId) (e : Ty) (g : List e.den → Option (List e.den)) : Prop := ∀ (Z : Nat → Prop) (w : World) (xs ys : List e.den) (v : Value) (F : List Nat),
 (∀ b, Z b → b < w.heap.size) → Rep Z w (.vec e) xs [v] F → F.Nodup → (∀ b ∈ F, ¬ Z b ∧ b < w.heap.size) → g xs = some ys →
 Calls P f #[v] w fun ex w' => ex = .returned (.tuple #[]) ∧ Kept F w w' ∧ ys.length = xs.length ∧ Rep Z w' (.vec e) ys [v] F
structure FunC (P : Program) (f : FuncId) (F : FunE) : Prop where
 ok' : F.row = none → FunOk P f F
 ro : ∀ e g, F.row = some ⟨e, g⟩ → RowOk P f e g
 en : ∃ fn, P.funcs[f]? = some fn ∧ (fn.name == "runtime.NumGoroutine") = false ∧ fn.body.isNone = false
def TOk (P : Program) (T : Nat → Option FunE) : Prop := ∀ f F, T f = some F → FunC P f F
section
variable {P : Program} {B : Base} {m m' m0 : Md} {H H' : Hp} {w w' : World} {o : Oper} {a : Act} {E : Env} {tab : Nat → Option TI} {T : Nat → Option FunE} {N : Nat}

theorem wCallRow_ok {e : Ty} {g : List e.den → Option (List e.den)} {f : FuncId} (hF : RowOk P f e g) (hh : HOk B m H w) {as_ : List AV} {vs : List Value} (hv : All2 (AVRep m w H) as_ vs) (ex : (execOp a.eval o).run P w = .ok (.enter f vs.toArray) w) : WayOk P B m H w o a (wCallRow e g as_) := by
 unfold wCallRow
 split
 ·rename_i id
  match vs, hv with
  | [v], hv =>
   intro Q hQ
   simp only at hQ
   split at hQ
   ·rename_i e' xs hx
    split at hQ
    ·rename_i xs' hc
     obtain ⟨he, hxs⟩ := castTo_eq hc
     cases he
     have hxs : xs = xs' := hxs
     subst hxs
     obtain ⟨ys, hy, hQ⟩ := hQ
     have hQ : Q _ := hQ
     have hx := live_of_only hx
     have hL : (H id).Live := by rw [hx]; trivial
     have hcr := hh.cr id
     rw [hx] at hcr
     have hvd := hv.1.one.2.1 _ _ hx
     subst hvd
     refine ⟨_, _, hQ, ?_⟩
     unfold OpOk
     rw [ex]
     refine (hF m.Z w xs ys _ _ hh.zl hcr (hh.nd id hL) (fun b hb => ⟨(hh.nz id hL b hb).1, (hh.nz id hL b hb).2.1⟩) hy).mono fun e' w' ⟨h1, h2, h3, h4⟩ => ⟨_, h1, ?_⟩
     have hput := putH_cons H id (.live (.row e ys)) [] (by simp)
     have ch : Change B m H w (id :: []) (m.set id (m.hd id) (m.ft id)) (putH H ((id, .live (.row e ys)) :: deads [])) w' :=
      Change.one (w' := w') (ob := .row e ys) hh (by simp) (by simp) h2.os h2.tape h2.output h2.size (fun b hb hnB => h2.block b hb fun hbF => hnB ⟨id, by simp, hL, hbF⟩) h4 (fun z hz => ⟨(hh.nz id hL z hz).1, .inl ⟨id, by simp, hL, hz⟩⟩) (hh.nd id hL) (fun _ => EvoAt.row_ hx hput h3.symm (by simp only [Md.set]; rw [upd_same]))
     exact ⟨_, hh.change ch, hh.evo ch, ⟨[], rfl, trivial⟩⟩
    ·exact hQ.elim
   ·exact hQ.elim
 ·exact WayOk.fail

theorem enter_exec {c : Call} (ho : o.op = .call c) {x : Operand} (hc : c.callee = .value x) {f : FuncId} (hx : a.eval x = .func (.func f) #[] #[]) (hen : ∃ fn, P.funcs[f]? = some fn ∧ (fn.name == "runtime.NumGoroutine") = false ∧ fn.body.isNone = false) :
 (execOp a.eval o).run P w = .ok (.enter f (c.args.map a.eval)) w := by
 obtain ⟨fn, h1, h2, h3⟩ := hen
 simp only [execOp, ho, resolve, hc, hx]
 have h2 : ¬ fn.name = "runtime.NumGoroutine" := by simpa using h2
 have h3 : ¬ fn.body = none := fun hh => by rw [hh] at h3; cases h3
 simp [Deferred.ofValue, invoke, callFunc, h1, h2, h3]
theorem enter_clo {c : Call} (ho : o.op = .call c) {x : Operand} (hc : c.callee = .value x) {f : FuncId} {fs cs : Array Value} (hx : a.eval x = .func (.func f) fs cs) (hen : ∃ fn, P.funcs[f]? = some fn ∧ (fn.name == "runtime.NumGoroutine") = false ∧ fn.body.isNone = false) :
 (execOp a.eval o).run P w = .ok (.enter f (fs ++ c.args.map a.eval ++ cs)) w := by
 obtain ⟨fn, h1, h2, h3⟩ := hen
 simp only [execOp, ho, resolve, hc, hx]
 have h2 : ¬ fn.name = "runtime.NumGoroutine" := by simpa using h2
 have h3 : ¬ fn.body = none := fun hh => by rw [hh] at h3; cases h3
 simp [Deferred.ofValue, invoke, callFunc, h1, h2, h3]
theorem all2_args (s : St B m E H a w) : ∀ {xs : List Operand}, (∀ x ∈ xs, opndOkB x = true) → All2 (AVRep m w H) (xs.map (evalO E)) (xs.map a.eval)
 | [], _ => trivial
 | x :: xs, h => ⟨evalO_ok s (h x (by simp)), all2_args s fun y hy => h y (by simp [hy])⟩
theorem wCall_ok (hT : TabOk P tab) (hC : TOk P T) (s : St B m E H a w) {c : Call} (ho : o.op = .call c) (hx : ∀ x ∈ c.operands, opndOkB x = true) :
 WayOk P B m H w o a (wCall tab T o.dst c (c.args.toList.map (evalO E)) (match c.callee with | .value f => some (evalO E f) | _ => none)) := by
 have hargs := all2_args s (xs := c.args.toList) fun x h => hx x (by simp [Call.operands]; exact .inr (by simpa using h))
 have hmap : (c.args.map a.eval).toList = c.args.toList.map a.eval := by simp
 have hmap' : c.args.map a.eval = (c.args.toList.map a.eval).toArray := by rw [← hmap]
 unfold wCall
 cases hc : c.callee with
 | invoke r n => exact WayOk.fail
 | value x =>
  simp only
  split
  ·rename_i f u he
   split
   ·rename_i F hF
    have hfc := hC f F (by simpa using hF)
    simp only [Option.some.injEq] at he
    have hev := evalO_ok s (hx x (by simp [Call.operands, hc]))
    rw [he] at hev
    have hfv : a.eval x = .func (.func f) #[] #[] := by
     have := hev.one
     obtain ⟨h1, _⟩ := (this : [a.eval x] = [.func (.func f) #[] #[]] ∧ _)
     simpa using h1
    split
    ·rename_i q hq
     exact wCallRow_ok (hfc.ro _ _ hq) s.h hargs (by rw [enter_exec ho hc hfv hfc.en, hmap'])
    ·rename_i hq
     exact wCallR_ok (hfc.ok' hq) s.h hargs (by rw [enter_exec ho hc hfv hfc.en, hmap'])
   ·exact WayOk.fail
  ·rename_i f b id he
   split
   ·rename_i F hF
    have hfc := hC f F (by simpa using hF)
    simp only [Option.some.injEq] at he
    have hev := evalO_ok s (hx x (by simp [Call.operands, hc]))
    rw [he] at hev
    split
    ·exact WayOk.fail
    rename_i hq
    intro Q hQ
    unfold wLive at hQ
    simp only at hQ
    split at hQ
    ·rename_i hlv
     obtain ⟨g, ls, hx'⟩ : ∃ g ls, H id = .live (.cells g ls) := by
      unfold liveCells at hlv
      split at hlv
      ·rename_i g ls hh
       exact ⟨g, ls, live_of_only hh⟩
      ·cases hlv
     obtain ⟨bb, q, q1, q2⟩ := hev.one.2 g ls hx'
     have hp : AVRep m w H (.val false [.ptr id 0]) (.pointer (some ⟨bb, q, none⟩)) := AVRep.mk1 ⟨by rw [hx']; simp, fun g' ls' hh' => ⟨bb, q, q1, rfl⟩⟩
     have hp2 : All2 (AVRep m w H) [.val false [.ptr id 0]] [.pointer (some ⟨bb, q, none⟩)] := ⟨hp, trivial⟩
     cases b with
     | true => exact wCallF_ok (hfc.ok' hq) s.h (as_ := .val false [.ptr id 0] :: _) (vs := .pointer (some ⟨bb, q, none⟩) :: c.args.toList.map a.eval) ⟨hp, hargs⟩ (by rw [enter_clo ho hc (fs := #[.pointer (some ⟨bb, q, none⟩)]) (cs := #[]) q2 hfc.en, hmap']; simp) Q hQ
     | false => exact wCallF_ok (hfc.ok' hq) s.h (vs := c.args.toList.map a.eval ++ [.pointer (some ⟨bb, q, none⟩)]) (All2.append hargs hp2) (by rw [enter_clo ho hc (fs := #[]) (cs := #[.pointer (some ⟨bb, q, none⟩)]) q2 hfc.en, hmap']; simp) Q hQ
    ·exact hQ.elim
   ·exact WayOk.fail
  ·exact WayOk.fail
 | builtin b =>
  cases b <;> simp only <;> try exact WayOk.fail
  case len =>
   split
   ·rename_i x hxs hsz
    have hsz := Nat.eq_of_beq_eq_true hsz
    match hc1 : c.args.toList, hxs, hargs with
    | [y], hxs, hargs =>
     simp only [List.map_cons, List.map_nil, List.cons.injEq, and_true] at hxs
     subst hxs
     rw [hc1] at hmap'
     have h1 := hargs.1
     refine wLen_ok hT s.h h1 fun n hn => exec_call_builtin ho hc ?_
     have hts : c.argTypes = #[c.argTypes.getD 0 0] := by
      apply Array.ext
      ·simpa using hsz
      ·intro i h1 h2
       have : i = 0 := by omega
       subst this
       simp [Array.getD, h1]
     generalize c.argTypes.getD 0 0 = t at hts hn
     rw [hts]
     simp only [builtin, hmap', List.map_cons, List.map_nil]
     rw [show ([a.eval y] : List Value).toArray = #[a.eval y] from rfl]
     simp only [Sem.run_bind, hn, Result.andThen_ok, Sem.run_pure]
   ·exact WayOk.fail
  case append =>
   split
   ·rename_i x y hxs
    match hc1 : c.args.toList, hxs, hargs with
    | [x1, y1], hxs, hargs =>
     simp only [List.map_cons, List.map_nil, List.cons.injEq, and_true] at hxs
     obtain ⟨rfl, rfl⟩ := hxs
     rw [hc1] at hmap'
     refine wAppendR_ok hT s.h hargs.1 hargs.2.1 fun v w' hv => ?_
     simp only [execOp, ho, resolve, hc]
     simp only [Sem.run_bind, Sem.run_pure, Result.andThen_ok, invoke, builtin, hmap', List.map_cons, List.map_nil]
     rw [show ([a.eval x1, a.eval y1] : List Value).toArray = #[a.eval x1, a.eval y1] from rfl, hv]
     rfl
   ·exact WayOk.fail
  case max =>
   refine wMinMax_ok s.h hargs (fun x y => by unfold mxI; split <;> simp) max2_run fun x rest u hl hu => exec_call_builtin ho hc ?_
   simp only [builtin, Builtin.max_, hmap, hl, Sem.run_bind, hu, Result.andThen_ok, Sem.run_pure]
  case min =>
   refine wMinMax_ok s.h hargs (fun x y => by unfold mnI; split <;> simp) min2_run fun x rest u hl hu => exec_call_builtin ho hc ?_
   simp only [builtin, Builtin.min_, hmap, hl, Sem.run_bind, hu, Result.andThen_ok, Sem.run_pure]

theorem wayD_ok (hT : TabOk P tab) (B : Base) (m : Md) (H : Hp) (w : World) (a : Act) (E : Env) (o : Oper) (t : DT (AV × List (Nat × Cell))) (hx : o.op.operands.toList.all opndOkB = true) (s : St B m E H a w) (h : wayD tab E H o = some t) : WayDOk P B m H w o a t := by
 have hx : ∀ x ∈ o.op.operands, opndOkB x = true := fun x h => List.all_eq_true.1 hx x (by simpa using h)
 unfold wayD at h
 split at h
 ·cases h
 ·split at h
  ·rename_i ho
   exact nilWay_ok hT s.h (.inl ⟨rfl, ho⟩) (evalO_ok s (hx _ (by rw [ho]; simp [Op.operands]))) h
  ·rename_i ho
   exact nilWay_ok hT s.h (.inr ⟨rfl, ho⟩) (evalO_ok s (hx _ (by rw [ho]; simp [Op.operands]))) h
  ·rename_i ho
   exact nextWay_ok s.h ho (evalO_ok s (hx _ (by rw [ho]; simp [Op.operands]))) h
  ·cases h
theorem way_ok (hT : TabOk P tab) (hC : TOk P T) : WaysOk P tab T := by
 refine ⟨fun B m H w a E o hx s => ?_, wayD_ok hT⟩
 have hx : ∀ x ∈ o.op.operands, opndOkB x = true := fun x h => List.all_eq_true.1 hx x (by simpa using h)
 unfold way
 cases ho : o.op <;> (try simp only [ho, Op.operands] at hx) <;> (try simp only) <;> try exact WayOk.fail
 case move x => exact WayOk.val s.h (by simp only [execOp, ho, Sem.run_pure]) (evalO_ok s (hx x (by simp)))
 case assign x => exact WayOk.val s.h (by simp only [execOp, ho, Sem.run_pure]) (evalO_ok s (hx x (by simp)))
 case pick c x y => exact wPick_ok s.h ho (evalO_ok s (hx c (by simp))) (evalO_ok s (hx x (by simp))) (evalO_ok s (hx y (by simp)))
 case nilCheck x => exact wNilCheckP_ok s.h ho (evalO_ok s (hx x (by simp)))
 case alloc t =>
  split
  ·rename_i i hi
   obtain ⟨inf, z, k1, k2, k3, k4, k5, k6⟩ := (hT t i hi).info
   refine wBox_ok (t := t) (v := .agg z.cells) s.h ⟨z.cells.toList, by simp [IsV], k6.mono fun _ _ h => h.l⟩ fun cs ⟨g, ls, h1, h2⟩ h3 => ?_
   cases h1
   have : z.cells = cs.toArray := by simpa [IsV] using h2
   rw [← this]
   exact alloc_exec ho k1 k4
  ·exact WayOk.fail
 case box t x =>
  refine wBoxP_ok (t := t) s.h (evalO_ok s (hx x (by simp))) fun cs ⟨g, ls, h1, h2⟩ h3 => box_exec ho (isV_cells h2 h3)
 case build t ps => exact wBuildP_ok hT s.h ho (all2_parts s fun p hp => hx p.2 (by simp; exact ⟨p.1, by simpa using hp⟩))
 case buildSlice t n ps => exact wBuildSliceF_ok hT s.h ho (all2_parts s fun p hp => hx p.2 (by simp; exact ⟨p.1, by simpa using hp⟩))
 case load t x => exact wLoadR_ok hT s.h ho (evalO_ok s (hx x (by simp)))
 case store t x y => exact wStore_ok hT s.h ho (unpin_ok (evalO_ok s (hx x (by simp)))) (evalO_ok s (hx y (by simp)))
 case binOp op t x y yt => exact wBinN_ok hT s.h ho (evalO_ok s (hx x (by simp))) (evalO_ok s (hx y (by simp)))
 case unOp op t x => exact wUn_ok s.h ho (evalO_ok s (hx x (by simp)))
 case convert t d x => exact wConvertB_ok hT s.h ho (evalO_ok s (hx x (by simp)))
 case makeSlice t x y => exact wMakeSlice_ok hT s.h ho (evalO_ok s (hx x (by simp))) (evalO_ok s (hx y (by simp)))
 case slice t x lo hi mx =>
  cases mx with
  | some _ => exact WayOk.fail
  | none => exact wSlice_ok hT s.h ho (evalO_ok s (hx x (by simp))) (optRep_map s fun y hy => hx y (by simp [hy])) (optRep_map s fun y hy => hx y (by simp [hy]))
 case fieldAddr t x f => exact wFieldAddrP_ok hT s.h ho (evalO_ok s (hx x (by simp)))
 case field t x f => exact wField_ok hT s.h ho (evalO_ok s (hx x (by simp)))
 case indexAddr t x i => exact wIndexAddr_ok hT s.h ho (evalO_ok s (hx x (by simp))) (evalO_ok s (hx i (by simp)))
 case index t x i => exact wIndex_ok hT s.h ho (evalO_ok s (hx x (by simp))) (evalO_ok s (hx i (by simp)))
 case extract x n => exact wExtract_ok s.h ho (evalO_ok s (hx x (by simp)))
 case call c => exact wCall_ok hT hC s ho hx
 case makeMap t r =>
  cases r with
  | some _ => exact WayOk.fail
  | none => exact wMakeMapB_ok hT s.h ho
 case insert t x k y => exact wMapUpdateP_ok hT s.h (.inr ho) (evalO_ok s (hx x (by simp))) (evalO_ok s (hx k (by simp))) (evalO_ok s (hx y (by simp)))
 case mapUpdate t x k y => exact wMapUpdateP_ok hT s.h (.inl ho) (evalO_ok s (hx x (by simp))) (evalO_ok s (hx k (by simp))) (evalO_ok s (hx y (by simp)))
 case range t x => exact wRangeP_ok hT s.h ho (evalO_ok s (hx x (by simp)))
 case entry x => exact wEntry_ok s.h ho (evalO_ok s (hx x (by simp)))
 case makeFunc fn fs cs => exact wMakeFunc_ok s.h ho (all2_args s (xs := fs.toList) fun x h => hx x (by simp; exact .inl (by simpa using h))) (all2_args s (xs := cs.toList) fun x h => hx x (by simp; exact .inr (by simpa using h)))
 case lookup t x k ok => exact wLookupP_ok hT s.h ho (evalO_ok s (hx x (by simp))) (evalO_ok s (hx k (by simp)))
end
end Go.Proofs.Ytodnfnnfjnnhmaa.A

-- YtodnfnnfjnnhmaaOpn
set_option linter.unusedVariables false
set_option linter.unusedSimpArgs false
namespace Go.Proofs.Ytodnfnnfjnnhmaa.A
open Go

def Ty.low : Ty → Nat
 | .bool => 1
 | .int k => k.bits / 8
 | .str => 16
 | .sl _ => 24
 | .pair a b => a.low + b.low
 | _ => 0
def okT : (τ : Ty) → τ.den → Prop
 | .int k, n => k.min ≤ n ∧ n ≤ k.max
 | .str, s => s.length ≤ 140737488351232
 | .sl e, xs => xs.length ≤ 140737488351232 ∧ xs.length * e.low ≤ 140737488351232 ∧ ∀ x ∈ xs, okT e x
 | .pair a b, x => okT a x.1 ∧ okT b x.2
 | _, _ => True
def fitB (P : Program) : Nat → Ty → Nat ⊕ (List Go.Field × Nat) → Bool
 | 0, _, _ => false
 | n + 1, τ, .inl t => (match P.underlying t, τ with
  | some .bool, .bool => true
  | some (.int k'), .int k => decide (k' = k)
  | some .string, .str => true
  | some (.slice et), .sl e => fitB P n e (.inl et) && Nat.beq (P.cellsOf et) e.cells && Nat.ble 1 e.cells && Nat.ble e.low (P.bytesOf et) && Nat.ble 1 (P.bytesOf et)
  | some (.struct fs), τ => Nat.beq (P.cellsOf t) τ.cells && fitB P n τ (.inr (fs.toList, 0))
  | _, _ => false)
 | n + 1, τ, .inr ([f], off) => Nat.beq f.offset off && fitB P n τ (.inl f.type) && Nat.beq (P.cellsOf f.type) τ.cells
 | n + 1, .pair a b, .inr (f :: g :: fs, off) => Nat.beq f.offset off && fitB P n a (.inl f.type) && Nat.beq (P.cellsOf f.type) a.cells && fitB P n b (.inr (g :: fs, off + a.cells))
 | _, _, _ => false

section
variable {P : Program} {w : World} {Z : Nat → Prop}
theorem list_of {α : Type} (p : Nat → α → Prop) : ∀ n : Nat, (∀ i, i < n → ∃ y, p i y) → ∃ l : List α, l.length = n ∧ ∀ i y, l[i]? = some y → p i y := by
 intro n
 induction n with
 | zero => intro _; exact ⟨[], rfl, fun i y h => by simp at h⟩
 | succ n ih =>
  intro h
  obtain ⟨l, hl, hp⟩ := ih (fun i hi => h i (by omega))
  obtain ⟨y, hy⟩ := h n (by omega)
  refine ⟨l ++ [y], by simp [hl], fun i z hz => ?_⟩
  by_cases hi : i < l.length
  ·exact hp i z (by rwa [List.getElem?_append_left hi] at hz)
  ·rw [List.getElem?_append_right (by omega)] at hz
   have hi2 : i - l.length < 1 := by
    rcases Nat.lt_or_ge (i - l.length) 1 with h | h
    ·exact h
    ·rw [List.getElem?_eq_none (by simpa using h)] at hz
     cases hz
   have e : i = n := by omega
   subst e
   rw [hl] at hz
   simp at hz
   subst hz
   exact hy
theorem weightsAll_mem {H : Type} {P : Program} {e : TypeId} {d : DataW H} : ∀ {l : List (DataW H)}, d ∈ l → ∀ n ∈ d.weights P e, n ∈ DataW.weightsAll P e l := by
 intro l
 induction l with
 | nil => intro h; cases h
 | cons a l ih =>
  intro h n hn
  rw [DataW.weightsAll, List.mem_append]
  rcases List.mem_cons.1 h with rfl | h
  ·exact .inl hn
  ·exact .inr (ih h n hn)
theorem int_wf {k : IntKind} {n : Int} (h : (Lit.int k n).wf = true) : k.min ≤ n ∧ n ≤ k.max := by
 simpa [Lit.wf] using h
theorem repL_of {e : Ty} {b o : Nat} : ∀ (l : List e.den) (k : Nat), (∀ (i : Nat) (y : e.den), l[i]? = some y → ∃ c, Rep Z w e y c [] ∧ ∀ (j : Nat) (u : Value), c[j]? = some u → w.cell? ⟨b, o + ((k + i) * e.cells + j), none⟩ = some u) →
 ∃ c, RepL (fun x c F => Rep Z w e x c F) l c [] ∧ ∀ (j : Nat) (u : Value), c[j]? = some u → w.cell? ⟨b, o + (k * e.cells + j), none⟩ = some u
 | [], k, _ => ⟨[], ⟨rfl, rfl⟩, by simp⟩
 | y :: l, k, h => by
  obtain ⟨c, h1, h2⟩ := h 0 y rfl
  obtain ⟨cs, g1, g2⟩ := repL_of l (k + 1) fun i z hz => by
   have := h (i + 1) z (by simpa using hz)
   rwa [show k + (i + 1) = k + 1 + i by omega] at this
  refine ⟨c ++ cs, ⟨c, cs, [], [], rfl, rfl, h1, g1⟩, fun j u hu => ?_⟩
  have hl := h1.len
  rw [List.getElem?_append] at hu
  split at hu
  ·exact h2 j u hu
  ·rename_i hj
   have := g2 _ u hu
   rwa [show o + ((k + 1) * e.cells + (j - c.length)) = o + (k * e.cells + j) by rw [Nat.succ_mul]; omega] at this

theorem fit_ok (hZ : ∀ b, b < w.heap.size → Z b) {H : Type} {enc : TypeId × Value → H} : ∀ (n : Nat) (τ : Ty) (q : Nat ⊕ (List Go.Field × Nat)), fitB P n τ q = true → match q with
 | .inl t => ∀ {fuel : Nat} {cs : List Value} {x : DataW H × List MemPlace}, DataW.trod enc P w 0 (fun _ => true) true fuel t cs = some x → (∀ n ∈ x.1.weights P t, n ≤ reachBytes) → ∃ y, Rep Z w τ y cs [] ∧ okT τ y
 | .inr (fs, off) => ∀ {fuel : Nat} {cs : List Value} {xs : List (DataW H × List MemPlace)}, xs.length = fs.length → cs.length = off + τ.cells →
  (∀ (i : Nat) (f : Go.Field), fs[i]? = some f → DataW.trod enc P w 0 (fun _ => true) true fuel f.type ((cs.drop f.offset).take (P.cellsOf f.type)) = xs[i]?) →
  (∀ m ∈ DataW.weightsEach P (fs.map (·.type)) (xs.map (·.1)), m ≤ reachBytes) → ∃ y, Rep Z w τ y (cs.drop off) [] ∧ okT τ y := by
 intro n
 induction n with
 | zero => intro τ q h; cases h
 | succ n ih =>
  intro τ q h
  cases q with
  | inl t =>
   intro fuel cs x hx hw
   simp only [fitB] at h
   split at h
   ·rename_i hu
    obtain ⟨b, rfl, _⟩ := DataW.trod_bool hu hx
    exact ⟨b, ⟨rfl, rfl⟩, trivial⟩
   ·rename_i k' k hu
    have hk : k' = k := by simpa using h
    subst hk
    obtain ⟨m, rfl, _, hm⟩ := DataW.trod_int hu hx
    exact ⟨m, ⟨rfl, rfl, int_wf hm⟩, int_wf hm⟩
   ·rename_i hu
    obtain ⟨s, rfl, rfl, hs⟩ := DataW.trod_string hu hx
    have := hw s.data.toList.length (by simp [DataW.weights])
    have hl : s.data.toList.length ≤ 140737488351232 := by simpa [reachBytes] using this
    exact ⟨s.data.toList, ⟨rfl, rfl, by unfold big; omega⟩, hl⟩
   ·rename_i et e hu
    simp only [Bool.and_eq_true] at h
    obtain ⟨⟨⟨⟨h1, h2⟩, h3⟩, h4⟩, h5⟩ := h
    have h2 := Nat.eq_of_beq_eq_true h2
    have h3 := Nat.le_of_ble_eq_true h3
    have h4 := Nat.le_of_ble_eq_true h4
    have h5 := Nat.le_of_ble_eq_true h5
    rcases DataW.trod_slice hu hx with ⟨rfl, rfl⟩ | ⟨a, len, cap, elems, rest, m, _, rfl, rfl, hb, hl, hm, hlen, hel, hsp, _⟩
    ·exact ⟨[], ⟨rfl, by simp, none, 0, rfl, by simp, .inl rfl⟩, by simp, by simp, by simp⟩
    ·have each : ∀ i, i < len → ∃ y, (∃ c, Rep Z w e y c [] ∧ ∀ (j : Nat) (u : Value), c[j]? = some u → w.cell? (a.add (i * e.cells + j)) = some u) ∧ okT e y := by
      intro i hi
      have h1' := hel i hi
      have hi2 : i < elems.length := by omega
      rw [List.getElem?_eq_getElem hi2, Option.bind_eq_some_iff] at h1'
      obtain ⟨c, hcs, hc2⟩ := h1'
      obtain ⟨_, hcl, hcc⟩ := World.cells?_some hcs
      obtain ⟨y, hy, ho⟩ := ih e (.inl et) h1 hc2 (fun m hm => hw m (by
       rw [DataW.weights]
       simp only [hu, List.mem_cons, List.mem_append]
       exact .inr (.inl (weightsAll_mem (List.mem_map_of_mem (f := Prod.fst) (List.getElem_mem hi2)) m hm))))
      refine ⟨y, ⟨c, hy, fun j u hu' => ?_⟩, ho⟩
      have hj : j < P.cellsOf et := by
       rcases Nat.lt_or_ge j c.length with h | h
       ·omega
       ·rw [List.getElem?_eq_none h] at hu'
        cases hu'
      have := hcc j hj
      rw [hu', Go.Addr.add_add, h2] at this
      exact this
     obtain ⟨l, hll, hp⟩ := list_of _ len each
     have hlb : len * P.bytesOf et ≤ 140737488351232 := by
      have h1 : ((elems.map (·.1)).length + (rest.map (·.1)).length) * P.bytesOf et ≤ reachBytes := hw _ (by
       rw [DataW.weights]
       simp only [hu]
       exact List.mem_cons_self)
      have h2 : len * P.bytesOf et ≤ ((elems.map (·.1)).length + (rest.map (·.1)).length) * P.bytesOf et := Nat.mul_le_mul_right _ (by simp; omega)
      simpa [reachBytes] using Nat.le_trans h2 h1
     have hl1 : len ≤ 140737488351232 := Nat.le_trans (by simpa using Nat.mul_le_mul_left len h5) hlb
     have hl2 : len * e.low ≤ 140737488351232 := Nat.le_trans (Nat.mul_le_mul_left len h4) hlb
     refine ⟨l, ⟨rfl, by unfold big; omega, some a, cap, by rw [hll], by omega, ?_⟩, by omega, by rw [hll]; exact hl2, fun x hx => ?_⟩
     ·by_cases hl0 : l = []
      ·exact .inl hl0
      ·right
       have h0 : 0 < l.length := List.length_pos_iff.2 hl0
       -- the first cell
       obtain ⟨⟨c, hc1, hc2⟩, _⟩ := hp 0 _ (List.getElem?_eq_getElem h0)
       have hc0 : 0 < c.length := by rw [hc1.len]; omega
       have hcell := hc2 0 _ (List.getElem?_eq_getElem hc0)
       rw [show a.add (0 * e.cells + 0) = a by simp [Go.Addr.add]] at hcell
       have hadd : a.spot = none ∧ a.block < w.heap.size := by
        obtain ⟨bb, oo, ss⟩ := a
        simp only [World.cell?] at hcell
        cases ss with
        | none =>
         refine ⟨rfl, ?_⟩
         cases hh : w.heap[bb]? with
         | none => rw [hh] at hcell; cases hcell
         | some ob => exact (Array.getElem?_eq_some_iff.1 hh).1
        | some s =>
         split at hcell
         ·simp at hcell
         ·cases hcell
       obtain ⟨bb, oo, ss⟩ := a
       obtain ⟨hs, hbb⟩ := hadd
       simp only at hs hbb
       subst hs
       obtain ⟨cc, g1, g2⟩ := repL_of (Z := Z) (w := w) (b := bb) (o := oo) l 0 fun i y hy => by
        obtain ⟨⟨c, k1, k2⟩, _⟩ := hp i y hy
        exact ⟨c, k1, fun j u hu => by have := k2 j u hu; rw [aad] at this; rwa [Nat.zero_add]⟩
       exact ⟨bb, oo, cc, rfl, hZ bb hbb, g1, fun j u hu => by have := g2 j u hu; rwa [Nat.zero_mul, Nat.zero_add] at this⟩
     ·obtain ⟨i, hi⟩ := List.getElem?_of_mem hx
      exact (hp i x hi).2
   ·rename_i fs hu
    simp only [Bool.and_eq_true] at h
    have hc := Nat.eq_of_beq_eq_true h.1
    obtain ⟨xs, m, _, rfl, hcl, hxl, hf⟩ := DataW.trod_struct hu hx
    have := ih _ (.inr (fs.toList, 0)) h.2 (fuel := m) (cs := cs) (xs := xs) (by simpa using hxl) (by rw [hcl, hc]; simp) (fun i f hi => hf i f (by simpa using hi)) (fun m hm => hw m (by
     rw [DataW.weights]
     simp only [hu]
     exact hm))
    simpa using this
   ·cases h
  | inr p =>
   obtain ⟨fs, off⟩ := p
   intro fuel cs xs hxs hcs hf hw
   match fs, hxs, hf, hw, h with
   | [], _, _, _, h => simp [fitB] at h
   | [f], hxs, hf, hw, h =>
    simp only [fitB, Bool.and_eq_true] at h
    obtain ⟨⟨h1, h2⟩, h3⟩ := h
    have h1 := Nat.eq_of_beq_eq_true h1
    have h3 := Nat.eq_of_beq_eq_true h3
    obtain ⟨x, rfl⟩ : ∃ x, xs = [x] := by
     match xs, hxs with
     | [x], _ => exact ⟨x, rfl⟩
    have hx := hf 0 f rfl
    rw [h1, List.take_of_length_le (by simp; omega)] at hx
    exact ih τ (.inl f.type) h2 hx (fun m hm => hw m (by simpa [DataW.weightsEach] using hm))
   | f :: g :: fs, hxs, hf, hw, h =>
    cases τ <;> try (simp [fitB] at h; done)
    rename_i a b _
    simp only [fitB, Bool.and_eq_true] at h
    obtain ⟨⟨⟨h1, h2⟩, h3⟩, h4⟩ := h
    have h1 := Nat.eq_of_beq_eq_true h1
    have h3 := Nat.eq_of_beq_eq_true h3
    match xs, hxs with
    | x :: xs, hxs =>
     have hx := hf 0 f rfl
     rw [h1] at hx
     obtain ⟨y, hy, hoy⟩ := ih a (.inl f.type) h2 (x := x) hx (fun m hm => hw m (by simp [DataW.weightsEach]; exact .inl hm))
     obtain ⟨z, hz, hoz⟩ := ih b (.inr (g :: fs, off + a.cells)) h4 (fuel := fuel) (cs := cs) (xs := xs) (by simpa using hxs) (by rw [hcs]; simp only [Ty.cells]; omega) (fun i f' hi => by have := hf (i + 1) f' (by simpa using hi); simpa using this) (fun m hm => hw m (by
      simp only [List.map_cons, DataW.weightsEach, List.mem_append]
      simp only [List.map_cons, DataW.weightsEach, List.mem_append] at hm
      exact .inr hm))
     refine ⟨(y, z), ⟨_, _, [], [], ?_, rfl, hy, hz⟩, hoy, hoz⟩
     rw [h3, ← List.drop_drop, List.take_append_drop]
theorem weights_of {H : Type} {P : Program} {t : TypeId} {x : DataW H} : ∀ {ts : List TypeId} {ds : List (DataW H)} {j : Nat}, (DataW.weightsEach P ts ds).all (· ≤ reachBytes) = true → ts[j]? = some t → ds[j]? = some x → ∀ n ∈ x.weights P t, n ≤ reachBytes := by
 intro ts
 induction ts with
 | nil => intro ds j _ h; simp at h
 | cons a ts ih =>
  intro ds j hw ht hd n hn
  match ds with
  | [] => simp at hd
  | d :: ds =>
   rw [DataW.weightsEach, List.all_append, Bool.and_eq_true] at hw
   cases j with
   | zero =>
    simp at ht hd
    subst ht; subst hd
    simpa using List.all_eq_true.1 hw.1 n hn
   | succ j => exact ih hw.2 (by simpa using ht) (by simpa using hd) n hn
def argFitB (P : Program) (τ : Ty) (t : Nat) : Bool := fitB P 60 τ (.inl t) && (match P.underlying t with | some (.struct _) => !τ.one | _ => τ.one)
theorem arg_open (hZ : ∀ b, b < w.heap.size → Z b) {H : Type} {enc : TypeId × Value → H} {τ : Ty} {t : Nat} (hfit : argFitB P τ t = true) {r : Reach} {base : Nat} {v : Value} {x : DataW H} {ps : List MemPlace} {ts : List TypeId} {ds : List (DataW H)} {j : Nat}
 (hsz : (DataW.weightsEach P ts ds).all (· ≤ reachBytes) = true) (hj : ts[j]? = some t) (hd : ds[j]? = some x) (hv : Value.okWide P w r base t v) (h : DataW.Trod enc P w 0 (fun _ => true) true t v x ps) :
 ∃ y, ArgRep (fun _ => ([], [])) Z w false τ y v [] ∧ okT τ y := by
 unfold argFitB at hfit
 rw [Bool.and_eq_true] at hfit
 obtain ⟨fuel, hf⟩ := h
 have hwt : ∀ n ∈ x.weights P t, n ≤ reachBytes := weights_of hsz hj hd
 obtain ⟨y, hy, ho⟩ := fit_ok (P := P) hZ 60 τ (.inl t) hfit.1 hf hwt
 refine ⟨y, ⟨v.cells.toList, ?_, hy⟩, ho⟩
 have h2 := hfit.2
 have h1 : fitB P (59 + 1) τ (.inl t) = true := hfit.1
 unfold fitB at h1
 split at h1
 ·rename_i hu
  rw [hu] at h2
  obtain ⟨c, rfl⟩ := WideShapes.okWide_bool hu hv
  rw [show (!Ty.bool.one) = false from rfl]; rfl
 ·rename_i k' k hu
  obtain ⟨c, rfl⟩ := WideShapes.okWide_int hu hv
  rfl
 ·rename_i hu
  obtain ⟨c, rfl⟩ := WideShapes.okWide_string hu hv
  rfl
 ·rename_i et e hu
  obtain ⟨a, len, cap, rfl⟩ := WideShapes.okWide_slice hu hv
  rfl
 ·rename_i fs hu
  rw [hu] at h2
  obtain ⟨cs, rfl, _⟩ := WideShapes.okWide_struct hu hv
  simp only at h2
  rw [h2]
  simp [IsV, Value.cells]
 ·cases h1
end
end Go.Proofs.Ytodnfnnfjnnhmaa.A

-- YtodnfnnfjnnhmaaTb
set_option linter.unusedVariables false
set_option linter.unusedSimpArgs false
namespace Go.Proofs.Ytodnfnnfjnnhmaa.A
open Go
def zrepB : LV → Value → Bool
 | .v .bool b, .bool c => b == c
 | .v (.int k) n, .int k' m => decide (k' = k) && decide (m = n) && decide (k.min ≤ n) && decide (n ≤ k.max)
 | .v .str l, .string s => decide (s.data.toList = l) && decide (l.length ≤ big)
 | .nils, .slice none 0 0 => true
 | .nilm, .map none => true
 | .nilp, .pointer none => true
 | .junk, _ => true
 | _, _ => false
def zrepsB : List LV → List Value → Bool
 | [], [] => true
 | l :: ls, c :: cs => zrepB l c && zrepsB ls cs
 | _, _ => false
def aggB : Value → Bool
 | .agg _ => true
 | .tuple _ => false
 | _ => false
def oneFitsB (P : Program) (t : Nat) : Ty → Bool
 | .int k => (match P.underlying t with | some (.int k') => decide (k' = k) | _ => false)
 | .bool => (match P.underlying t with | some .bool => true | _ => false)
 | .str => (match P.underlying t with | some .string => true | _ => false)
 | _ => false
def eqFB (P : Program) : Nat → List Go.Field → Ty → Bool
 | _, [], _ => false
 | off, [f], τ => decide (f.name ≠ "_") && Nat.beq f.offset off && oneFitsB P f.type τ
 | off, f :: g :: fs, .pair a b => decide (f.name ≠ "_") && Nat.beq f.offset off && oneFitsB P f.type a && eqFB P (off + 1) (g :: fs) b
 | _, _, _ => false
def descFitsB (i : TI) (d : TypeDesc) : Bool :=
 match i.ty, d with
 | .int k, .int k' => decide (k' = k)
 | .int _, _ => false
 | .bool, .bool => true
 | .bool, _ => false
 | .str, .string => true
 | .str, _ => false
 | .sl _, .slice e => Nat.beq e i.elem
 | .sl _, _ => false
 | .map _ _, .map k e => Nat.beq k i.key && Nat.beq e i.elem
 | .map _ _, _ => false
 | .ptr _, .pointer _ => true
 | .ptr _, _ => false
 | _, _ => true
def fieldsB : List Go.Field → List (Nat × Nat) → Bool
 | [], [] => true
 | f :: fs, p :: ps => Nat.beq f.offset p.1 && Nat.beq f.type p.2 && fieldsB fs ps
 | _, _ => false
def rowOkB (P : Program) (t : Nat) (i : TI) : Bool :=
 (match P.info? t with
  | some inf => Nat.beq inf.size i.ty.cells && Nat.beq inf.bytes i.bytes && (match inf.zero with | some z => (aggB z == i.agg) && zrepsB i.zero z.cells.toList && (i.agg || (match z with | .tuple _ => false | _ => true)) | none => false)
  | none => false) &&
 (i.agg || i.ty.one) && Nat.beq i.zero.length i.ty.cells && Nat.ble i.bytes 4096 &&
 (match i.agg with
  | true => (match P.underlying t with
   | some (.array n e) => i.fields.isEmpty && Nat.beq n i.ty.cells && Nat.beq e i.elem && !(Nat.beq i.ty.cells 0)
   | some (.struct fs) => (!i.fields.isEmpty || Nat.beq i.ty.cells 0) && (fs.toList.mapM (fun f => (P.info? f.type).map fun i => (f.offset, i.size))).isSome && (!i.ty.eqB || (eqFB P 0 fs.toList i.ty && !(P.eqGuardType P.depth t))) && !(P.stoodInHeld t) && fieldsB fs.toList i.fields
   | _ => false)
  | false => (match P.underlying t with | some d => plainDesc d && descFitsB i d | none => false))
section
variable {P : Program}
theorem zrep_of : ∀ {l : LV} {c : Value}, zrepB l c = true → ZRep l c := by
 intro l c h
 unfold zrepB at h
 split at h
 ·rename_i b c
  have : b = c := by simpa using h
  subst this
  rfl
 ·simp only [Bool.and_eq_true, decide_eq_true_eq] at h
  obtain ⟨⟨⟨rfl, rfl⟩, h3⟩, h4⟩ := h
  exact ⟨rfl, h3, h4⟩
 ·rename_i l s
  simp only [Bool.and_eq_true, decide_eq_true_eq] at h
  obtain ⟨h1, h2⟩ := h
  subst h1
  exact ⟨rfl, h2⟩
 ·rfl
 ·rfl
 ·rfl
 ·trivial
 ·cases h
theorem zreps_of : ∀ {ls : List LV} {cs : List Value}, zrepsB ls cs = true → All2 ZRep ls cs
 | [], [], _ => trivial
 | l :: ls, c :: cs, h => by
  simp only [zrepsB, Bool.and_eq_true] at h
  exact ⟨zrep_of h.1, zreps_of h.2⟩
 | [], _ :: _, h => by cases h
 | _ :: _, [], h => by cases h
theorem oneFits_of {t : Nat} {τ : Ty} (h : oneFitsB P t τ = true) : oneFits P t τ := by
 cases τ <;> try (cases h; done)
 all_goals
  simp only [oneFitsB] at h
  split at h
 ·rename_i hu; exact hu
 ·cases h
 ·rename_i k' hu
  have h := of_decide_eq_true h
  subst h
  exact hu
 ·cases h
 ·rename_i hu; exact hu
 ·cases h
theorem eqF_of : ∀ {fs : List Go.Field} {off : Nat} {τ : Ty}, eqFB P off fs τ = true → EqF P off fs τ
 | [], off, τ, h => by simp [eqFB] at h
 | [f], off, τ, h => by
  simp only [eqFB, Bool.and_eq_true, decide_eq_true_eq] at h
  obtain ⟨⟨h1, h2⟩, h3⟩ := h
  cases τ <;> exact ⟨h1, Nat.eq_of_beq_eq_true h2, oneFits_of h3⟩
 | f :: g :: fs, off, τ, h => by
  cases τ <;> try (simp [eqFB] at h; done)
  simp only [eqFB, Bool.and_eq_true, decide_eq_true_eq] at h
  obtain ⟨⟨⟨h1, h2⟩, h3⟩, h4⟩ := h
  exact ⟨h1, Nat.eq_of_beq_eq_true h2, oneFits_of h3, eqF_of h4⟩
theorem descFits_of {i : TI} {d : TypeDesc} (h : descFitsB i d = true) : descFits i d := by
 unfold descFitsB at h
 unfold descFits
 generalize i.ty = τ at h ⊢
 cases τ <;> cases d <;> first
  | exact False.elim (Bool.false_ne_true h)
  | exact trivial
  | exact rfl
  | exact ⟨_, rfl⟩
  | exact congrArg TypeDesc.int (of_decide_eq_true h)
  | exact congrArg TypeDesc.slice (Nat.eq_of_beq_eq_true h)
  | exact (by
   have h := (Bool.and_eq_true _ _).mp h
   exact congr (congrArg TypeDesc.map (Nat.eq_of_beq_eq_true h.1)) (Nat.eq_of_beq_eq_true h.2))
theorem fields_of : ∀ {fs : List Go.Field} {ps : List (Nat × Nat)}, fieldsB fs ps = true → fs.length = ps.length ∧ ∀ (f o ft : Nat), ps[f]? = some (o, ft) → ∃ fd : Go.Field, fs[f]? = some fd ∧ fd.offset = o ∧ fd.type = ft
 | [], [], _ => ⟨rfl, by simp⟩
 | f :: fs, p :: ps, h => by
  simp only [fieldsB, Bool.and_eq_true] at h
  obtain ⟨⟨h1, h2⟩, h3⟩ := h
  obtain ⟨g1, g2⟩ := fields_of h3
  refine ⟨by simp [g1], fun k o ft hk => ?_⟩
  cases k with
  | zero =>
   simp only [List.getElem?_cons_zero, Option.some.injEq] at hk
   subst hk
   exact ⟨f, rfl, Nat.eq_of_beq_eq_true h1, Nat.eq_of_beq_eq_true h2⟩
  | succ k => simpa using g2 k o ft (by simpa using hk)
 | [], _ :: _, h => by cases h
 | _ :: _, [], h => by cases h
theorem rowOk_of {t : Nat} {i : TI} (h : rowOkB P t i = true) : TyOk P t i := by
 unfold rowOkB at h
 simp only [Bool.and_eq_true] at h
 obtain ⟨⟨⟨⟨h1, h2⟩, h3⟩, h4⟩, h5⟩ := h
 have hagg : i.agg = true → (i.fields = [] ∧ P.underlying t = some (.array i.ty.cells i.elem)) ∨ ∃ fs : Array Go.Field, (i.fields = [] → i.ty.cells = 0) ∧ P.underlying t = some (.struct fs) ∧ (fs.toList.mapM (fun f => (P.info? f.type).map fun i => (f.offset, i.size))).isSome = true ∧ (!i.ty.eqB || (eqFB P 0 fs.toList i.ty && !(P.eqGuardType P.depth t))) = true ∧ P.stoodInHeld t = false ∧ fieldsB fs.toList i.fields = true := fun ha => by
  rw [ha] at h5
  simp only at h5
  split at h5
  ·rename_i n e hu
   simp only [Bool.and_eq_true, Bool.not_eq_true'] at h5
   obtain ⟨⟨⟨a1, a2⟩, a3⟩, a4⟩ := h5
   refine .inl ⟨by simpa using a1, ?_⟩
   rw [hu, Nat.eq_of_beq_eq_true a2, Nat.eq_of_beq_eq_true a3]
  ·rename_i fs hu
   simp only [Bool.and_eq_true, Bool.not_eq_true'] at h5
   obtain ⟨⟨⟨⟨a0, a1⟩, a2⟩, a3⟩, a4⟩ := h5
   refine .inr ⟨fs, fun hf => ?_, hu, a1, a2, a3, a4⟩
   rw [hf] at a0
   simpa using a0
  ·cases h5
 refine ⟨?_, fun ha => ?_, Nat.eq_of_beq_eq_true h3, Nat.le_of_ble_eq_true h4, fun ha hf => ?_, fun ha he hf => ?_, fun ha he hf => ?_, ?_⟩
 ·split at h1
  ·rename_i inf hi
   simp only [Bool.and_eq_true] at h1
   obtain ⟨⟨g1, g2⟩, g3⟩ := h1
   split at g3
   ·rename_i z hz
    simp only [Bool.and_eq_true] at g3
    obtain ⟨⟨k1, k2⟩, k3⟩ := g3
    refine ⟨inf, z, hi, Nat.eq_of_beq_eq_true g1, Nat.eq_of_beq_eq_true g2, hz, ?_, zreps_of k2⟩
    have k1 : aggB z = i.agg := by simpa using k1
    rw [← k1]
    cases z <;> first | rfl | simp [aggB, IsV, Value.cells]
   ·cases g3
  ·cases h1
 ·rw [ha] at h2; simpa using h2
 ·rcases hagg ha with ⟨h0, _⟩ | ⟨fs, _, a1, a2, _⟩
  ·rw [h0] at hf; cases hf
  obtain ⟨pl, hp⟩ := Option.isSome_iff_exists.1 a2
  exact ⟨fs, pl, a1, hp⟩
 ·rcases hagg ha with ⟨h0, _⟩ | ⟨fs, _, a1, _, a3, _⟩
  ·rw [h0] at hf; cases hf
  rw [he] at a3
  simp only [Bool.not_true, Bool.false_or, Bool.and_eq_true] at a3
  exact ⟨fs, a1, eqF_of a3.1⟩
 ·rcases hagg ha with ⟨h0, _⟩ | ⟨fs, _, a1, _, a3, _⟩
  ·rw [h0] at hf; cases hf
  rw [he] at a3
  simp only [Bool.not_true, Bool.false_or, Bool.and_eq_true] at a3
  simpa using a3.2
 ·cases ha : i.agg with
  | true =>
   rcases hagg ha with h0 | ⟨fs, a0, a1, _, _, a4, a5⟩
   ·exact .inl h0
   obtain ⟨f1, f2⟩ := fields_of a5
   exact .inr ⟨fs, a0, a1, a4, fun f o ft hf => by obtain ⟨fd, q1, q2⟩ := f2 f o ft hf; exact ⟨fd, by simpa using q1, q2⟩, by simpa using f1⟩
  | false =>
   rw [ha] at h5
   simp only at h5
   split at h5
   ·rename_i d hu
    simp only [Bool.and_eq_true] at h5
    exact ⟨d, hu, h5.1, descFits_of h5.2⟩
   ·cases h5
def tabOkB (P : Program) (l : List (Nat × Option TI)) : Bool := l.all fun p => match p.2 with | some i => rowOkB P p.1 i | none => true
theorem tabOk_of {l : List (Nat × Option TI)} (h : tabOkB P l = true) : TabOk P (ofL none l) := by
 intro t i hi
 induction l with
 | nil => cases hi
 | cons p l ih =>
  unfold tabOkB at h
  rw [List.all_cons, Bool.and_eq_true] at h
  obtain ⟨k, x⟩ := p
  rw [ofL_cons] at hi
  by_cases hk : t = k
  ·subst hk
   rw [upd_same] at hi
   subst hi
   exact rowOk_of h.1
  ·rw [upd_other _ _ hk] at hi
   exact ih h.2 hi
end
end Go.Proofs.Ytodnfnnfjnnhmaa.A

-- YtodnfnnfjnnhmaaLw
set_option linter.unusedVariables false
set_option linter.unusedSimpArgs false
namespace Go.Proofs.Ytodnfnnfjnnhmaa.A
open Go
section
variable {P : Program} {tab : Nat → Option TI}
theorem TOk.nil : TOk P (ofL none []) := fun _ _ h => by cases h
theorem TOk.cons {f : Nat} {F : FunE} {l : List (Nat × Option FunE)} (h : FunC P f F) (hl : TOk P (ofL none l)) : TOk P (ofL none ((f, some F) :: l)) := by
 intro g G hg
 rw [ofL_cons] at hg
 by_cases e : g = f
 ·subst e
  rw [upd_same] at hg
  cases hg
  exact h
 ·rw [upd_other _ _ e] at hg
  exact hl g G hg
theorem funC_of (hm : P.follows .mixedOrders = true) (hT : TabOk P tab) {f : FuncId} {fn : Func} (hf : P.funcs[f]? = some fn) {T : Nat → Nat → Option FunE} {ann : Nat → Option (List Keep)} {ins : List (Bool × Ty)} {outs : List Ty} {n : Nat} (hC : ∀ k, TOk P (T k)) (hk : fnOkB fn ins = true) (hn : (fn.name == "runtime.NumGoroutine") = false) : FunC P f (fnE tab T ann fn ins outs n) := by
 refine ⟨fun _ => fnE_ok hm hT hf (fun k _ => way_ok hT (hC k)) hk, fun _ _ h => (by cases h), fn, hf, hn, ?_⟩
 simp only [fnOkB, Bool.and_eq_true] at hk
 have := hk.1.1.2
 cases hb : fn.body with
 | none => rw [hb] at this; cases this
 | some _ => rfl
theorem FunC.spec {f : FuncId} {ins : List (Bool × Ty)} {outs : List Ty} {F : Nat → (ins.foldr (fun p t => Ty.pair p.2 t) .unit).den → Option ((outs ++ (ins.filter (·.1)).map (·.2)).foldr Ty.pair .unit).den} {g : (ins.foldr (fun p t => Ty.pair p.2 t) .unit).den → Option ((outs ++ (ins.filter (·.1)).map (·.2)).foldr Ty.pair .unit).den}
 (hF : ∀ n, FunC P f { ins := ins, outs := outs, f := F n }) (h : ∀ x r, g x = some r → ∃ n, F n x = some r) : FunC P f { ins := ins, outs := outs, f := g } := by
 refine ⟨fun _ fr Z w xs vs Fs r h1 h2 h3 h4 h5 => ?_, fun _ _ h => (by cases h), (hF 0).en⟩
 obtain ⟨n, hn⟩ := h xs r h5
 exact ((hF n).ok' rfl fr Z w xs vs Fs r h1 h2 h3 h4 hn).mono fun e w' ⟨v, Z', us, Fr, Fi, he, p⟩ => ⟨v, Z', us, Fr, Fi, he, ⟨p.kp, p.zs, p.zl, p.zi, p.res, p.v, p.io, p.nd, p.nz⟩⟩
theorem law_end {Z : Nat → Prop} {w w' : World} {F : FunE} {vs us : List Value} {v : Value} {Z' : Nat → Prop} {Fr Fi : List Nat} {r : ((F.outs ++ (F.ins.filter (·.1)).map (·.2)).foldr Ty.pair .unit).den} {fr : Nat → List Value × List Value} (p : Post fr Z w [] F vs r v w' Z' us Fr Fi) {τs : List Ty} (ho : F.outs = [.bool]) {b : Bool} (hb : ResL Z' w' F.outs (splitRes F.outs _ r).1 us Fr → ResL Z' w' [.bool] (b, ()) us Fr) :
 v = .bool b ∧ RowKit.Below w.heap.size w w' := by
 refine ⟨?_, p.kp.os, p.kp.tape, p.kp.output, p.kp.size, fun k hk => p.kp.block k hk (by simp)⟩
 obtain ⟨u, us', F1, F2, e1, e2, ⟨cs, e3, e4⟩, e5, e6⟩ := hb p.res
 have e3 : cs = [u] := e3
 subst e3
 obtain ⟨e7, _⟩ := e4
 rw [p.v, e1, e5]
 simpa [tupOf] using e7
end
end Go.Proofs.Ytodnfnnfjnnhmaa.A

-- YtodnfnnfjnnhmaaShelf
namespace Go.Proofs
open Go.Shelf
def Try.lays106_ren : Go.Shelf.Ren := ⟨fun | 106 => 82 | 213 => 88 | 265 => 100 | n => n, fun | 9 => 9 | 3 => 3 | n => n, fun | n => n⟩
theorem Try.lays106 : Go.Proofs.Lays.n106 Try.prog Try.lays106_ren := {
 mixed := by kernel_rfl
 f106 := Try.func82.trans (congrArg some (by kernel_rfl))
 f213 := Try.func88.trans (congrArg some (by kernel_rfl))
 f265 := Try.func100.trans (congrArg some (by kernel_rfl))
 t3 := Try.underlying3
 a3 := Try.isAgg3
 z3 := Try.sizeOf3
 v3 := Try.zeroValue3
 t9 := Try.underlying9
 a9 := Try.isAgg9
 z9 := Try.sizeOf9
 v9 := Try.zeroValue9 }
open Go.RowKit in
theorem Try.strings_Compare (a b : ByteArray) (w : World) :
 Calls Try.prog 82 #[.string a, .string b] w fun e w' => e = .returned (.int .i64 (Lib.compareBytes a.data.toList b.data.toList)) ∧ w' = w := Any.strings_Compare Try.lays106 a b w
def Try.lays189_ren : Go.Shelf.Ren := ⟨fun | 189 => 73 | 125 => 84 | 257 => 83 | 128 => 98 | 129 => 99 | 294 => 89 | 295 => 90 | 296 => 91 | 297 => 92 | 298 => 93 | 299 => 94 | 216 => 95 | 300 => 96 | 301 => 97 | 328 => 101 | 329 => 102 | 330 => 103 | 331 => 104 | 332 => 105 | 215 => 106 | 343 => 107 | n => n, fun | 28 => 33 | 3 => 3 | 46 => 106 | 0 => 0 | 51 => 133 | 53 => 135 | 4 => 4 | 183 => 138 | 182 => 137 | 131 => 93 | 5 => 5 | 9 => 9 | 218 => 144 | 222 => 148 | 228 => 150 | 229 => 151 | n => n, fun | n => n⟩
theorem Try.lays189 : Go.Proofs.Lays.n189 Try.prog Try.lays189_ren := {
 mixed := by kernel_rfl
 f125 := Try.func84.trans (congrArg some (by kernel_rfl))
 f128 := Try.func98.trans (congrArg some (by kernel_rfl))
 f129 := Try.func99.trans (congrArg some (by kernel_rfl))
 f189 := Try.func73.trans (congrArg some (by kernel_rfl))
 f215 := Try.func106.trans (congrArg some (by kernel_rfl))
 f216 := Try.func95.trans (congrArg some (by kernel_rfl))
 f257 := Try.func83.trans (congrArg some (by kernel_rfl))
 f294 := Try.func89.trans (congrArg some (by kernel_rfl))
 f295 := Try.func90.trans (congrArg some (by kernel_rfl))
 f296 := Try.func91.trans (congrArg some (by kernel_rfl))
 f297 := Try.func92.trans (congrArg some (by kernel_rfl))
 f298 := Try.func93.trans (congrArg some (by kernel_rfl))
 f299 := Try.func94.trans (congrArg some (by kernel_rfl))
 f300 := Try.func96.trans (congrArg some (by kernel_rfl))
 f301 := Try.func97.trans (congrArg some (by kernel_rfl))
 f328 := Try.func101.trans (congrArg some (by kernel_rfl))
 f329 := Try.func102.trans (congrArg some (by kernel_rfl))
 f330 := Try.func103.trans (congrArg some (by kernel_rfl))
 f331 := Try.func104.trans (congrArg some (by kernel_rfl))
 f332 := Try.func105.trans (congrArg some (by kernel_rfl))
 f343 := Try.func107.trans (congrArg some (by kernel_rfl))
 t0 := Try.underlying0
 a0 := Try.isAgg0
 z0 := Try.sizeOf0
 v0 := Try.zeroValue0
 t3 := Try.underlying3
 a3 := Try.isAgg3
 z3 := Try.sizeOf3
 v3 := Try.zeroValue3
 t4 := Try.underlying4
 a4 := Try.isAgg4
 z4 := Try.sizeOf4
 v4 := Try.zeroValue4
 t5 := Try.underlying5
 a5 := Try.isAgg5
 z5 := Try.sizeOf5
 v5 := Try.zeroValue5
 t9 := Try.underlying9
 a9 := Try.isAgg9
 z9 := Try.sizeOf9
 v9 := Try.zeroValue9
 t28 := Try.underlying33
 a28 := Try.isAgg33
 z28 := Try.sizeOf33
 v28 := Try.zeroValue33
 t46 := Try.underlying106
 a46 := Try.isAgg106
 z46 := Try.sizeOf106
 v46 := Try.zeroValue106
 t51 := Try.underlying133
 a51 := Try.isAgg133
 z51 := Try.sizeOf133
 v51 := Try.zeroValue133
 t53 := Try.underlying135
 a53 := Try.isAgg135
 z53 := Try.sizeOf135
 v53 := Try.zeroValue135
 t131 := Try.underlying93
 a131 := Try.isAgg93
 z131 := Try.sizeOf93
 v131 := Try.zeroValue93
 t182 := Try.underlying137
 a182 := Try.isAgg137
 z182 := Try.sizeOf137
 v182 := Try.zeroValue137
 t183 := Try.underlying138
 a183 := Try.isAgg138
 z183 := Try.sizeOf138
 v183 := Try.zeroValue138
 t218 := Try.underlying144
 a218 := Try.isAgg144
 z218 := Try.sizeOf144
 v218 := Try.zeroValue144
 t222 := Try.underlying148
 a222 := Try.isAgg148
 z222 := Try.sizeOf148
 v222 := Try.zeroValue148
 t228 := Try.underlying150
 a228 := Try.isAgg150
 z228 := Try.sizeOf150
 v228 := Try.zeroValue150
 t229 := Try.underlying151
 a229 := Try.isAgg151
 z229 := Try.sizeOf151
 v229 := Try.zeroValue151 }
open Go.Sort Go.RowKit in
theorem Try.slices_Sort_int (blk off cap : Nat) (zs : List Int) (w : World) (hH : Holds (Value.int .i64) w blk off zs.toArray) (hblk : blk < w.heap.size) (hsz : zs.length < 4611686018427387904) :
 Calls Try.prog 73 #[.slice (some ⟨blk, off, none⟩) zs.length cap] w fun e w' =>
  e = .returned (.tuple #[]) ∧ ∃ n os, w' = grow (putRow (Value.int .i64) (Sort.ahead w n) blk off (zs.mergeSort fun x y => decide (x ≤ y)).toArray) os := Any.slices_Sort_int Try.lays189 blk off cap zs w hH hblk hsz
open Go.RowKit Go.Sort in
theorem Try.slices_Sort_int_none (p : Option Addr) (cap : Nat) (w : World) :
 Calls Try.prog 73 #[.slice p 0 cap] w fun e w' => e = .returned (.tuple #[]) ∧ w' = w := Any.slices_Sort_int_none Try.lays189 p cap w
end Go.Proofs

-- YtodnfnnfjnnhmaaSh
set_option linter.unusedVariables false
set_option linter.unusedSimpArgs false
namespace Go.Proofs.Ytodnfnnfjnnhmaa.A
open Go Go.Sort
section
variable {P : Program} {w w' : World} {Z : Nat → Prop}

theorem ints_rep {k : IntKind} : ∀ {xs : List Int} {c : List Value} {F : List Nat}, RepL (fun (x : Int) c F => Rep Z w (.int k) x c F) xs c F ↔ (c = xs.map (Value.int k) ∧ F = [] ∧ ∀ x ∈ xs, k.min ≤ x ∧ x ≤ k.max)
 | [], c, F => ⟨fun h => ⟨h.1, h.2, by simp⟩, fun h => ⟨h.1, h.2.1⟩⟩
 | x :: xs, c, F => by
  constructor
  ·rintro ⟨c1, c2, F1, F2, rfl, rfl, ⟨h1, h2, h3⟩, h4⟩
   obtain ⟨q1, q2, q3⟩ := ints_rep.1 h4
   subst h1; subst h2; subst q1; subst q2
   refine ⟨rfl, rfl, fun y hy => ?_⟩
   rcases List.mem_cons.1 hy with rfl | hy
   ·exact h3
   ·exact q3 y hy
  ·rintro ⟨rfl, rfl, h⟩
   exact ⟨[_], _, [], [], rfl, rfl, ⟨rfl, rfl, h x (by simp)⟩, ints_rep.2 ⟨rfl, rfl, fun y hy => h y (by simp [hy])⟩⟩
theorem ints_vec {k : IntKind} {xs : List Int} {v : Value} {F : List Nat} (h : Rep Z w (.vec (.int k)) xs [v] F) :
 xs.length ≤ 8796093022208 ∧ (∀ x ∈ xs, k.min ≤ x ∧ x ≤ k.max) ∧ ((xs = [] ∧ F = [] ∧ v = .slice none 0 0) ∨ ∃ b o cap blk el, v = .slice (some ⟨b, o, none⟩) xs.length cap ∧ xs.length ≤ cap ∧ F = [b] ∧ w.heap[b]? = some (.cells blk el (0, 0)) ∧ o + cap ≤ blk.size ∧ ∀ (j : Nat) (x : Int), xs[j]? = some x → blk[o + j]? = some (.int k x)) := by
 obtain ⟨h1, a, cap, c, F1, F2, h2, h3, h4, h5, h6⟩ := h
 obtain ⟨q1, q2, q3⟩ := ints_rep.1 h5
 subst q1; subst q2
 refine ⟨h1, q3, ?_⟩
 rcases h6 with ⟨rfl, rfl, h7, rfl⟩ | ⟨b, o, blk, el, rfl, h7, h8, h9, rfl⟩
 ·have : xs = [] := List.eq_nil_of_length_eq_zero h7
  subst this
  exact .inl ⟨rfl, h4, by simpa using h2⟩
 ·refine .inr ⟨b, o, cap, blk, el, by simpa using h2, h3, by simpa using h4, h7, by simpa [Ty.cells] using h8, fun j x hx => h9 j _ (by simp [hx])⟩
theorem ints_mk {k : IntKind} {xs : List Int} {b o cap : Nat} {blk : Array Value} {el : TypeId} (h1 : xs.length ≤ 8796093022208) (h2 : ∀ x ∈ xs, k.min ≤ x ∧ x ≤ k.max) (h3 : xs.length ≤ cap) (h4 : w.heap[b]? = some (.cells blk el (0, 0))) (h5 : o + cap ≤ blk.size) (h6 : ∀ (j : Nat) (x : Int), xs[j]? = some x → blk[o + j]? = some (.int k x)) :
 Rep Z w (.vec (.int k)) xs [.slice (some ⟨b, o, none⟩) xs.length cap] [b] := by
 refine ⟨h1, _, cap, _, [b], [], rfl, h3, rfl, ints_rep.2 ⟨rfl, rfl, h2⟩, .inr ⟨b, o, blk, el, rfl, h4, by simpa [Ty.cells] using h5, fun j u hu => ?_, rfl⟩⟩
 rw [List.getElem?_map] at hu
 cases hx : xs[j]? with
 | none => rw [hx] at hu; cases hu
 | some x => rw [hx] at hu; cases hu; exact h6 j x hx
theorem holds_of {k : IntKind} {xs : List Int} {b o : Nat} {blk : Array Value} {el : TypeId} (h : w.heap[b]? = some (.cells blk el (0, 0))) (hb : ∀ (j : Nat) (x : Int), xs[j]? = some x → blk[o + j]? = some (.int k x)) : Holds (Value.int k) w b o xs.toArray := by
 intro j hj
 have hj : j < xs.length := by simpa using hj
 refine ⟨?_, ?_⟩
 ·simp only [World.cell?, h]
  rw [hb j xs[j] (by simp [hj])]
  simp [hj]
 ·simp only [World.frozen?, h]
  simp
theorem put_row {k : IntKind} {xs : List Int} {b o : Nat} {blk : Array Value} {el : TypeId} (h : w.heap[b]? = some (.cells blk el (0, 0))) (ho : o + xs.length ≤ blk.size) :
 ∃ blk', (putRow (Value.int k) w b o xs.toArray).heap[b]? = some (.cells blk' el (0, 0)) ∧ blk'.size = blk.size ∧ (∀ (j : Nat) (x : Int), xs[j]? = some x → blk'[o + j]? = some (.int k x)) ∧ ∀ z, z ≠ b → (putRow (Value.int k) w b o xs.toArray).heap[z]? = w.heap[z]? := by
 refine ⟨putCells (Value.int k) o xs.toArray blk, ?_, by simp [putCells], fun j x hx => ?_, fun z hz => ?_⟩
 ·simp [putRow, mapBlock, Array.getElem?_modify, h, onCells]
 ·have hj := (List.getElem?_eq_some_iff.1 hx).1
  simp only [putCells, Array.getElem?_mapIdx]
  rw [Array.getElem?_eq_getElem (by omega)]
  simp only [Option.map_some, List.size_toArray]
  rw [if_pos (by omega), show o + j - o = j by omega]
  have := (List.getElem?_eq_some_iff.1 hx).2
  simp [hj, this]
 ·simp [putRow, mapBlock, Array.getElem?_modify, Ne.symm hz]

def sortI' (xs : List Int) : List Int := xs.mergeSort fun x y => decide (x ≤ y)
theorem rowOk_sort {f : FuncId} (h : ∀ (blk off cap : Nat) (zs : List Int) (w : World), Holds (Value.int .i64) w blk off zs.toArray → blk < w.heap.size → zs.length < 4611686018427387904 →
 Calls P f #[.slice (some ⟨blk, off, none⟩) zs.length cap] w fun e w' => e = .returned (.tuple #[]) ∧ ∃ n os, w' = Go.Sort.grow (putRow (Value.int .i64) (Sort.ahead w n) blk off (sortI' zs).toArray) os)
 (h0 : ∀ (p : Option Addr) (cap : Nat) (w : World), Calls P f #[.slice p 0 cap] w fun e w' => e = .returned (.tuple #[]) ∧ w' = w) : RowOk P f (.int .i64) (fun xs => some (sortI' xs)) := by
 intro Z w xs ys v F hZ hr hn hF hy
 cases hy
 have hl : (sortI' xs).length = xs.length := List.length_mergeSort _
 obtain ⟨q1, q2, ⟨rfl, rfl, rfl⟩ | ⟨b, o, cap, blk, el, rfl, q3, rfl, q5, q6, q7⟩⟩ := ints_vec hr
 ·refine (h0 none 0 w).mono ?_
  rintro e w' ⟨rfl, rfl⟩
  exact ⟨rfl, Kept.refl _ _, hl, by simpa [sortI'] using hr⟩
 ·have hb := (hF b (by simp)).2
  refine (h b o cap xs w (holds_of q5 q7) hb (by omega)).mono ?_
  rintro e w' ⟨rfl, n, os, rfl⟩
  obtain ⟨blk', p1, p2, p3, p4⟩ := put_row (k := .i64) (w := Sort.ahead w n) (xs := sortI' xs) (o := o) q5 (by rw [hl]; omega)
  have hsz : (putRow (Value.int .i64) (Sort.ahead w n) b o (sortI' xs).toArray).heap.size = w.heap.size := size_putRow _ _ _ _ _
  have get : ∀ z, z < w.heap.size → (Go.Sort.grow (putRow (Value.int .i64) (Sort.ahead w n) b o (sortI' xs).toArray) os).heap[z]? = (putRow (Value.int .i64) (Sort.ahead w n) b o (sortI' xs).toArray).heap[z]? := fun z hz => by
   simp only [Go.Sort.grow]
   rw [Array.getElem?_append, if_pos (by rw [hsz]; exact hz)]
  refine ⟨rfl, ⟨rfl, rfl, rfl, by simp only [Go.Sort.grow, Array.size_append]; omega, fun z hz hzF => ?_⟩, hl, ?_⟩
  ·rw [get z hz, p4 z (by simpa using hzF)]; rfl
  ·rw [← hl]
   exact ints_mk (by rw [hl]; exact q1) (fun x hx => q2 x (List.mem_mergeSort.1 hx)) (by rw [hl]; exact q3) (by rw [get b hb]; exact p1) (by rw [p2]; exact q6) p3

end
end Go.Proofs.Ytodnfnnfjnnhmaa.A

-- YtodnfnnfjnnhmaaK
set_option linter.unusedVariables false
set_option maxRecDepth 100000
namespace Go.Proofs.Ytodnfnnfjnnhmaa.A
open Go
theorem follows : Try.prog.follows .mixedOrders = true := by kernel_rfl
theorem tab_ok : TabOk Try.prog tab := tabOk_of (by kernel_rfl)
theorem compare_less : ∀ a b : List UInt8, Lib.compareBytes a b = if Op.bytesLess a b = true then -1 else if Op.bytesLess b a = true then 1 else 0 := by
 intro a
 induction a with
 | nil => intro b; cases b <;> simp [Lib.compareBytes, Op.bytesLess]
 | cons x a ih =>
  intro b
  cases b with
  | nil => simp [Lib.compareBytes, Op.bytesLess]
  | cons y b =>
   have e1 : Op.bytesLess (x :: a) (y :: b) = (decide (x < y) || (x == y && Op.bytesLess a b)) := by rw [Op.bytesLess]
   have e2 : Op.bytesLess (y :: b) (x :: a) = (decide (y < x) || (y == x && Op.bytesLess b a)) := by rw [Op.bytesLess]
   rw [Lib.compareBytes, e1, e2]
   rcases Nat.lt_trichotomy x.toNat y.toNat with h | h | h
   ·have h1 : x < y := UInt8.lt_iff_toNat_lt.2 h
    simp [h1]
   ·have h3 : x = y := UInt8.toNat_inj.1 h
    subst h3
    have h2 : ¬ x < x := fun h' => by have := UInt8.lt_iff_toNat_lt.1 h'; omega
    simpa [h2] using ih b
   ·have h1 : y < x := UInt8.lt_iff_toNat_lt.2 h
    have h2 : ¬ x < y := fun h' => by have := UInt8.lt_iff_toNat_lt.1 h'; omega
    have h3 : ¬ x = y := fun h' => by subst h'; omega
    simp [h1, h2, h3]
theorem cmpS_range (a b : List UInt8) : IntKind.i64.min ≤ cmpS a b ∧ cmpS a b ≤ IntKind.i64.max := by
 have h1 : IntKind.i64.min = -9223372036854775808 := rfl
 have h2 : IntKind.i64.max = 9223372036854775807 := rfl
 rw [h1, h2]
 unfold cmpS
 split
 ·omega
 ·split <;> omega
theorem strings_Compare.ok (n : Nat) : FunC Try.prog 82 (strings_Compare.E n) := by
 refine ⟨fun _ fr Z w xs vs Fs r hZ hA hn hF hr => ?_, fun _ _ h => (by have h2 : (none : Option ((e : Ty) × (List e.den → Option (List e.den)))) = some _ := h; cases h2), Try.f82, Try.func82, by kernel_rfl, by kernel_rfl⟩
 obtain ⟨v0, vs0, F0, G0, rfl, rfl, ⟨c0, i0, q0⟩, v1, vs1, F1, G1, rfl, rfl, ⟨c1, i1, q1⟩, rfl, rfl⟩ := hA
 have i0 : c0 = [v0] := i0
 have i1 : c1 = [v1] := i1
 subst i0; subst i1
 obtain ⟨q0, rfl, l0⟩ := q0
 obtain ⟨q1, rfl, l1⟩ := q1
 simp only [List.cons.injEq, and_true] at q0 q1
 subst q0; subst q1
 have hr : some (cmpS xs.1 xs.2.1, ()) = some r := hr
 cases hr
 refine (Try.strings_Compare ⟨⟨xs.1⟩⟩ ⟨⟨xs.2.1⟩⟩ w).mono ?_
 rintro e w' ⟨rfl, rfl⟩
 refine ⟨_, Z, [.int .i64 (cmpS xs.1 xs.2.1)], [], [], rfl, Kept.refl _ _, fun _ h => h, hZ, fun _ h _ => .inl h, ?_, ?_, ?_, by simp, by simp⟩
 ·exact ⟨_, [], [], [], rfl, rfl, ⟨[_], rfl, rfl, rfl, cmpS_range _ _⟩, rfl, rfl⟩
 ·rw [compare_less]
  rfl
 ·rfl

theorem power_load_1.ok (n : Nat) : FunC Try.prog 81 (power_load_1.E n) := funC_of follows tab_ok Try.func81 (T := power_load_1.T) (ann := power_load_1.ann) (ins := power_load_1.ins) (outs := power_load_1.outs) (n := n) (fun k => TOk.cons (strings_Compare.ok k) (TOk.nil)) (by kernel_rfl) (by kernel_rfl)
theorem monitor_IsName.ok (n : Nat) : FunC Try.prog 37 (monitor_IsName.E n) := funC_of follows tab_ok Try.func37 (T := monitor_IsName.T) (ann := monitor_IsName.ann) (ins := monitor_IsName.ins) (outs := monitor_IsName.outs) (n := n) (fun k => TOk.nil) (by kernel_rfl) (by kernel_rfl)
theorem kit_In.ok (n : Nat) : FunC Try.prog 38 (kit_In.E n) := funC_of follows tab_ok Try.func38 (T := kit_In.T) (ann := kit_In.ann) (ins := kit_In.ins) (outs := kit_In.outs) (n := n) (fun k => TOk.nil) (by kernel_rfl) (by kernel_rfl)
theorem monitor_CheckLimits.ok (n : Nat) : FunC Try.prog 13 (monitor_CheckLimits.E n) := funC_of follows tab_ok Try.func13 (T := monitor_CheckLimits.T) (ann := monitor_CheckLimits.ann) (ins := monitor_CheckLimits.ins) (outs := monitor_CheckLimits.outs) (n := n) (fun k => TOk.cons (monitor_IsName.ok k) (TOk.cons (kit_In.ok k) (TOk.nil))) (by kernel_rfl) (by kernel_rfl)
theorem kit_First.ok (n : Nat) : FunC Try.prog 32 (kit_First.E n) := funC_of follows tab_ok Try.func32 (T := kit_First.T) (ann := kit_First.ann) (ins := kit_First.ins) (outs := kit_First.outs) (n := n) (fun k => TOk.nil) (by kernel_rfl) (by kernel_rfl)
theorem kit_Range.ok (n : Nat) : FunC Try.prog 33 (kit_Range.E n) := funC_of follows tab_ok Try.func33 (T := kit_Range.T) (ann := kit_Range.ann) (ins := kit_Range.ins) (outs := kit_Range.outs) (n := n) (fun k => TOk.cons (kit_In.ok k) (TOk.nil)) (by kernel_rfl) (by kernel_rfl)
theorem monitor_state.ok (n : Nat) : FunC Try.prog 34 (monitor_state.E n) := funC_of follows tab_ok Try.func34 (T := monitor_state.T) (ann := monitor_state.ann) (ins := monitor_state.ins) (outs := monitor_state.outs) (n := n) (fun k => TOk.nil) (by kernel_rfl) (by kernel_rfl)
theorem monitor_before.ok (n : Nat) : FunC Try.prog 41 (monitor_before.E n) := funC_of follows tab_ok Try.func41 (T := monitor_before.T) (ann := monitor_before.ann) (ins := monitor_before.ins) (outs := monitor_before.outs) (n := n) (fun k => TOk.nil) (by kernel_rfl) (by kernel_rfl)
theorem monitor_CheckSamples.ok (n : Nat) : FunC Try.prog 15 (monitor_CheckSamples.E n) := funC_of follows tab_ok Try.func15 (T := monitor_CheckSamples.T) (ann := monitor_CheckSamples.ann) (ins := monitor_CheckSamples.ins) (outs := monitor_CheckSamples.outs) (n := n) (fun k => TOk.cons (monitor_IsName.ok k) (TOk.cons (kit_In.ok k) (TOk.cons (monitor_before.ok k) (TOk.nil)))) (by kernel_rfl) (by kernel_rfl)
theorem monitor_followers.ok (n : Nat) : FunC Try.prog 42 (monitor_followers.E n) := funC_of follows tab_ok Try.func42 (T := monitor_followers.T) (ann := monitor_followers.ann) (ins := monitor_followers.ins) (outs := monitor_followers.outs) (n := n) (fun k => TOk.nil) (by kernel_rfl) (by kernel_rfl)
theorem monitor_follower_step.ok (n : Nat) : FunC Try.prog 43 (monitor_follower_step.E n) := funC_of follows tab_ok Try.func43 (T := monitor_follower_step.T) (ann := monitor_follower_step.ann) (ins := monitor_follower_step.ins) (outs := monitor_follower_step.outs) (n := n) (fun k => TOk.cons (monitor_state.ok k) (TOk.nil)) (by kernel_rfl) (by kernel_rfl)
theorem monitor_word.ok (n : Nat) : FunC Try.prog 44 (monitor_word.E n) := funC_of follows tab_ok Try.func44 (T := monitor_word.T) (ann := monitor_word.ann) (ins := monitor_word.ins) (outs := monitor_word.outs) (n := n) (fun k => TOk.nil) (by kernel_rfl) (by kernel_rfl)
theorem monitor_Follow.ok (n : Nat) : FunC Try.prog 19 (monitor_Follow.E n) := funC_of follows tab_ok Try.func19 (T := monitor_Follow.T) (ann := monitor_Follow.ann) (ins := monitor_Follow.ins) (outs := monitor_Follow.outs) (n := n) (fun k => TOk.cons (monitor_CheckLimits.ok k) (TOk.cons (monitor_CheckSamples.ok k) (TOk.cons (kit_First.ok k) (TOk.cons (monitor_followers.ok k) (TOk.cons (monitor_follower_step.ok k) (TOk.cons (monitor_word.ok k) (TOk.nil))))))) (by kernel_rfl) (by kernel_rfl)
theorem power_CheckCell.ok (n : Nat) : FunC Try.prog 68 (power_CheckCell.E n) := funC_of follows tab_ok Try.func68 (T := power_CheckCell.T) (ann := power_CheckCell.ann) (ins := power_CheckCell.ins) (outs := power_CheckCell.outs) (n := n) (fun k => TOk.cons (kit_In.ok k) (TOk.nil)) (by kernel_rfl) (by kernel_rfl)
theorem power_span.ok (n : Nat) : FunC Try.prog 77 (power_span.E n) := funC_of follows tab_ok Try.func77 (T := power_span.T) (ann := power_span.ann) (ins := power_span.ins) (outs := power_span.outs) (n := n) (fun k => TOk.cons (kit_In.ok k) (TOk.nil)) (by kernel_rfl) (by kernel_rfl)
theorem power_CheckSun.ok (n : Nat) : FunC Try.prog 69 (power_CheckSun.E n) := funC_of follows tab_ok Try.func69 (T := power_CheckSun.T) (ann := power_CheckSun.ann) (ins := power_CheckSun.ins) (outs := power_CheckSun.outs) (n := n) (fun k => TOk.cons (power_span.ok k) (TOk.nil)) (by kernel_rfl) (by kernel_rfl)
theorem slices_BinarySearchFunc_string.ok (n : Nat) : FunC Try.prog 80 (slices_BinarySearchFunc_string.E n) := funC_of follows tab_ok Try.func80 (T := slices_BinarySearchFunc_string.T) (ann := slices_BinarySearchFunc_string.ann) (ins := slices_BinarySearchFunc_string.ins) (outs := slices_BinarySearchFunc_string.outs) (n := n) (fun k => TOk.cons (power_load_1.ok k) (TOk.nil)) (by kernel_rfl) (by kernel_rfl)
theorem power_load.ok (n : Nat) : FunC Try.prog 72 (power_load.E n) := funC_of follows tab_ok Try.func72 (T := power_load.T) (ann := power_load.ann) (ins := power_load.ins) (outs := power_load.outs) (n := n) (fun k => TOk.cons (slices_BinarySearchFunc_string.ok k) (TOk.nil)) (by kernel_rfl) (by kernel_rfl)
theorem telemetry_Word.ok (n : Nat) : FunC Try.prog 87 (telemetry_Word.E n) := funC_of follows tab_ok Try.func87 (T := telemetry_Word.T) (ann := telemetry_Word.ann) (ins := telemetry_Word.ins) (outs := telemetry_Word.outs) (n := n) (fun k => TOk.nil) (by kernel_rfl) (by kernel_rfl)
theorem power_CheckLoads.ok (n : Nat) : FunC Try.prog 78 (power_CheckLoads.E n) := funC_of follows tab_ok Try.func78 (T := power_CheckLoads.T) (ann := power_CheckLoads.ann) (ins := power_CheckLoads.ins) (outs := power_CheckLoads.outs) (n := n) (fun k => TOk.cons (kit_In.ok k) (TOk.cons (telemetry_Word.ok k) (TOk.nil))) (by kernel_rfl) (by kernel_rfl)
theorem power_compare.ok (n : Nat) : FunC Try.prog 79 (power_compare.E n) := funC_of follows tab_ok Try.func79 (T := power_compare.T) (ann := power_compare.ann) (ins := power_compare.ins) (outs := power_compare.outs) (n := n) (fun k => TOk.cons (strings_Compare.ok k) (TOk.nil)) (by kernel_rfl) (by kernel_rfl)
theorem power_CheckUses.ok (n : Nat) : FunC Try.prog 70 (power_CheckUses.E n) := funC_of follows tab_ok Try.func70 (T := power_CheckUses.T) (ann := power_CheckUses.ann) (ins := power_CheckUses.ins) (outs := power_CheckUses.outs) (n := n) (fun k => TOk.cons (power_load.ok k) (TOk.cons (power_span.ok k) (TOk.cons (power_CheckLoads.ok k) (TOk.cons (power_compare.ok k) (TOk.nil))))) (by kernel_rfl) (by kernel_rfl)
theorem power_check.ok (n : Nat) : FunC Try.prog 55 (power_check.E n) := funC_of follows tab_ok Try.func55 (T := power_check.T) (ann := power_check.ann) (ins := power_check.ins) (outs := power_check.outs) (n := n) (fun k => TOk.cons (kit_First.ok k) (TOk.cons (kit_Range.ok k) (TOk.cons (power_CheckCell.ok k) (TOk.cons (power_CheckSun.ok k) (TOk.cons (power_CheckUses.ok k) (TOk.nil)))))) (by kernel_rfl) (by kernel_rfl)
theorem power_flow_1.ok (n : Nat) : FunC Try.prog 71 (power_flow_1.E n) := funC_of follows tab_ok Try.func71 (T := power_flow_1.T) (ann := power_flow_1.ann) (ins := power_flow_1.ins) (outs := power_flow_1.outs) (n := n) (fun k => TOk.nil) (by kernel_rfl) (by kernel_rfl)
theorem slices_Sort_int.ok (n : Nat) : FunC Try.prog 73 (slices_Sort_int.E n) := by
 refine ⟨fun h => (by have h2 : (some ⟨.int .i64, fun xs => some (sortI xs)⟩ : Option ((e : Ty) × (List e.den → Option (List e.den)))) = none := h; cases h2), fun e g h => ?_, Try.f73, Try.func73, by kernel_rfl, by kernel_rfl⟩
 cases h
 exact rowOk_sort (fun blk off cap zs w h1 h2 h3 => Try.slices_Sort_int blk off cap zs w h1 h2 h3) fun p cap w => Try.slices_Sort_int_none p cap w

theorem power_flow.ok (n : Nat) : FunC Try.prog 56 (power_flow.E n) := funC_of follows tab_ok Try.func56 (T := power_flow.T) (ann := power_flow.ann) (ins := power_flow.ins) (outs := power_flow.outs) (n := n) (fun k => TOk.cons (power_flow_1.ok k) (TOk.cons (power_load.ok k) (TOk.cons (slices_Sort_int.ok k) (TOk.nil)))) (by kernel_rfl) (by kernel_rfl)
theorem power_behind.ok (n : Nat) : FunC Try.prog 57 (power_behind.E n) := funC_of follows tab_ok Try.func57 (T := power_behind.T) (ann := power_behind.ann) (ins := power_behind.ins) (outs := power_behind.outs) (n := n) (fun k => TOk.nil) (by kernel_rfl) (by kernel_rfl)
theorem power_Follow.ok (n : Nat) : FunC Try.prog 29 (power_Follow.E n) := funC_of follows tab_ok Try.func29 (T := power_Follow.T) (ann := power_Follow.ann) (ins := power_Follow.ins) (outs := power_Follow.outs) (n := n) (fun k => TOk.cons (power_check.ok k) (TOk.cons (power_flow.ok k) (TOk.cons (power_behind.ok k) (TOk.nil)))) (by kernel_rfl) (by kernel_rfl)
theorem kit_Down.ok (n : Nat) : FunC Try.prog 74 (kit_Down.E n) := funC_of follows tab_ok Try.func74 (T := kit_Down.T) (ann := kit_Down.ann) (ins := kit_Down.ins) (outs := kit_Down.outs) (n := n) (fun k => TOk.nil) (by kernel_rfl) (by kernel_rfl)
theorem power_empty.ok (n : Nat) : FunC Try.prog 58 (power_empty.E n) := funC_of follows tab_ok Try.func58 (T := power_empty.T) (ann := power_empty.ann) (ins := power_empty.ins) (outs := power_empty.outs) (n := n) (fun k => TOk.cons (power_flow.ok k) (TOk.cons (power_behind.ok k) (TOk.cons (kit_Down.ok k) (TOk.nil)))) (by kernel_rfl) (by kernel_rfl)
theorem power_Empty.ok (n : Nat) : FunC Try.prog 30 (power_Empty.E n) := funC_of follows tab_ok Try.func30 (T := power_Empty.T) (ann := power_Empty.ann) (ins := power_Empty.ins) (outs := power_Empty.outs) (n := n) (fun k => TOk.cons (power_check.ok k) (TOk.cons (power_empty.ok k) (TOk.nil))) (by kernel_rfl) (by kernel_rfl)
theorem clock_checkBits.ok (n : Nat) : FunC Try.prog 75 (clock_checkBits.E n) := funC_of follows tab_ok Try.func75 (T := clock_checkBits.T) (ann := clock_checkBits.ann) (ins := clock_checkBits.ins) (outs := clock_checkBits.outs) (n := n) (fun k => TOk.cons (kit_In.ok k) (TOk.nil)) (by kernel_rfl) (by kernel_rfl)
theorem clock_Rolled.ok (n : Nat) : FunC Try.prog 59 (clock_Rolled.E n) := funC_of follows tab_ok Try.func59 (T := clock_Rolled.T) (ann := clock_Rolled.ann) (ins := clock_Rolled.ins) (outs := clock_Rolled.outs) (n := n) (fun k => TOk.cons (kit_In.ok k) (TOk.cons (clock_checkBits.ok k) (TOk.nil))) (by kernel_rfl) (by kernel_rfl)
theorem perigeetop_turns.ok (n : Nat) : FunC Try.prog 31 (perigeetop_turns.E n) := funC_of follows tab_ok Try.func31 (T := perigeetop_turns.T) (ann := perigeetop_turns.ann) (ins := perigeetop_turns.ins) (outs := perigeetop_turns.outs) (n := n) (fun k => TOk.cons (clock_Rolled.ok k) (TOk.nil)) (by kernel_rfl) (by kernel_rfl)
theorem perigeetop_TopLevelsAreWatched.ok (n : Nat) : FunC Try.prog 10 (perigeetop_TopLevelsAreWatched.E n) := funC_of follows tab_ok Try.func10 (T := perigeetop_TopLevelsAreWatched.T) (ann := perigeetop_TopLevelsAreWatched.ann) (ins := perigeetop_TopLevelsAreWatched.ins) (outs := perigeetop_TopLevelsAreWatched.outs) (n := n) (fun k => TOk.cons (monitor_Follow.ok k) (TOk.cons (power_Follow.ok k) (TOk.cons (power_Empty.ok k) (TOk.cons (perigeetop_turns.ok k) (TOk.nil))))) (by kernel_rfl) (by kernel_rfl)
end Go.Proofs.Ytodnfnnfjnnhmaa.A

-- YtodnfnnfjnnhmaaPk
set_option linter.unusedVariables false
set_option linter.unusedSimpArgs false
namespace Go.Proofs.Ytodnfnnfjnnhmaa.Pure
open Go Go.Proofs.Ytodnfnnfjnnhmaa.A

def Ev {α : Type} (g : Nat → Option α) (r : α) : Prop := ∃ k, ∀ n, k ≤ n → g n = some r
theorem Ev.now {α : Type} (r : α) : Ev (fun _ => some r) r := ⟨0, fun _ _ => rfl⟩
theorem Ev.rounds {α : Type} {g : Nat → Option α} {r : α} (h : Ev g r) : ∃ k, g k = some r := let ⟨K, h⟩ := h; ⟨K, h K (Nat.le_refl _)⟩
theorem Ev.bind {α β : Type} {g : Nat → Option α} {f : Nat → α → Option β} {a : α} {r : β} (h : Ev g a) (k : Ev (fun n => f n a) r) : Ev (fun n => (g n).bind (f n)) r := by
 obtain ⟨K, h⟩ := h
 obtain ⟨K', k⟩ := k
 refine ⟨max K K', fun n hn => ?_⟩
 simp only [h n (by omega), Option.bind_some]
 exact k n (by omega)
theorem Ev.step {α : Type} {g f : Nat → Option α} {r : α} (h : ∀ k, g (k + 1) = f k) (k : Ev f r) : Ev g r := by
 obtain ⟨K, k⟩ := k
 refine ⟨K + 1, fun n hn => ?_⟩
 obtain ⟨m, rfl⟩ : ∃ m, n = m + 1 := ⟨n - 1, by omega⟩
 rw [h]
 exact k m (by omega)
theorem Ev.eq {α : Type} {g f : Nat → Option α} {r : α} (h : ∀ k, g k = f k) (k : Ev f r) : Ev g r := by
 obtain ⟨K, k⟩ := k
 exact ⟨K, fun n hn => (h n).trans (k n hn)⟩
theorem less_total : ∀ a b : List UInt8, (Op.bytesLess a b || a == b) = !Op.bytesLess b a := by
 intro a
 induction a with
 | nil => intro b; cases b <;> simp [Op.bytesLess]
 | cons x a ih =>
  intro b
  cases b with
  | nil => simp [Op.bytesLess]
  | cons y b =>
   have := ih b
   have e1 : Op.bytesLess (x :: a) (y :: b) = (decide (x < y) || (x == y && Op.bytesLess a b)) := by rw [Op.bytesLess]
   have e2 : Op.bytesLess (y :: b) (x :: a) = (decide (y < x) || (y == x && Op.bytesLess b a)) := by rw [Op.bytesLess]
   rw [e1, e2]
   rcases Nat.lt_trichotomy x.toNat y.toNat with h | h | h
   ·have h1 : x < y := UInt8.lt_iff_toNat_lt.2 h
    have h2 : ¬ y < x := fun h' => by have := UInt8.lt_iff_toNat_lt.1 h'; omega
    have h3 : ¬ y = x := fun h' => by subst h'; omega
    simp [h1, h2, h3]
   ·have h3 : x = y := UInt8.toNat_inj.1 h
    subst h3
    have h2 : ¬ x < x := fun h' => by have := UInt8.lt_iff_toNat_lt.1 h'; omega
    simpa [h2] using this
   ·have h1 : y < x := UInt8.lt_iff_toNat_lt.2 h
    have h2 : ¬ x < y := fun h' => by have := UInt8.lt_iff_toNat_lt.1 h'; omega
    have h3 : ¬ x = y := fun h' => by subst h'; omega
    simp [h1, h2, h3]

theorem w64 {x : Int} (h : -9223372036854775808 ≤ x) (h' : x ≤ 9223372036854775807) : IntKind.wrap .i64 x = x := by
 have e1 : (2 : Int) ^ 64 = 18446744073709551616 := rfl
 have e2 : (2 : Int) ^ (64 - 1) = 9223372036854775808 := rfl
 simp only [IntKind.wrap, IntKind.bits, IntKind.signed, e1, e2, Bool.true_and, decide_eq_true_eq]
 by_cases hh : x % 18446744073709551616 ≥ 9223372036854775808
 ·rw [if_pos hh]; omega
 ·rw [if_neg hh]; omega
theorem Ev.yes {α : Type} {c : Prop} {hd : Decidable c} {g g' : Nat → Option α} {r : α} (h : c) (e : Ev g r) : Ev (fun k => if c then g k else g' k) r := by
 simp only [if_pos h]; exact e
theorem Ev.no {α : Type} {c : Prop} {hd : Decidable c} {g g' : Nat → Option α} {r : α} (h : ¬ c) (e : Ev g' r) : Ev (fun k => if c then g k else g' k) r := by
 simp only [if_neg h]; exact e
theorem Ev.unique {α : Type} {g : Nat → Option α} {r s : α} (h : Ev g r) (h' : Ev g s) : r = s := by
 obtain ⟨K, h⟩ := h
 obtain ⟨K', h'⟩ := h'
 have h1 := h (max K K') (by omega)
 have h2 := h' (max K K') (by omega)
 rw [h1] at h2
 injection h2
theorem Ev.some {α : Type} {o : Option α} {r : α} (h : o = some r) : Ev (fun _ => o) r := by subst h; exact Ev.now _

theorem mul_bd {x y A B : Int} (hx : -A ≤ x) (hx' : x ≤ A) (hy : -B ≤ y) (hy' : y ≤ B) : -(A * B) ≤ x * y ∧ x * y ≤ A * B := by
 have hA : 0 ≤ A := by omega
 have hB : 0 ≤ B := by omega
 have h1 : x.natAbs ≤ A.natAbs := by omega
 have h2 : y.natAbs ≤ B.natAbs := by omega
 have h3 : (x * y).natAbs ≤ (A * B).natAbs := by rw [Int.natAbs_mul, Int.natAbs_mul]; exact Nat.mul_le_mul h1 h2
 have h4 : 0 ≤ A * B := Int.mul_nonneg hA hB
 omega

theorem getD_nat {α : Type} (z : α) (l : List α) (i : Nat) (h : i < l.length) : l.getD i z = l[i] := by
 simp [List.getD_eq_getElem?_getD, List.getElem?_eq_getElem h]
theorem getD_mem {α : Type} {z : α} {l : List α} {i : Nat} (h : i < l.length) : l.getD i z ∈ l := by
 rw [getD_nat z l i h]; exact List.getElem_mem h

theorem bl_cons (x y : UInt8) (a b : List UInt8) : Op.bytesLess (x :: a) (y :: b) = (decide (x < y) || (x == y && Op.bytesLess a b)) := by rw [Op.bytesLess]
theorem less_irrefl (a : List UInt8) : Op.bytesLess a a = false := by
 have := less_total a a
 cases h : Op.bytesLess a a with
 | false => rfl
 | true => rw [h] at this; simp at this
theorem less_ne {a b : List UInt8} (h : Op.bytesLess a b = true) : a ≠ b := by
 intro e
 subst e
 rw [less_irrefl] at h
 cases h
theorem less_tri {a b : List UInt8} (h1 : ¬ Op.bytesLess a b = true) (h2 : a ≠ b) : Op.bytesLess b a = true := by
 have := less_total a b
 rw [show Op.bytesLess a b = false by simpa using h1, show (a == b) = false by simpa using h2] at this
 simpa using this.symm
theorem less_trans : ∀ {a b c : List UInt8}, Op.bytesLess a b = true → Op.bytesLess b c = true → Op.bytesLess a c = true := by
 intro a
 induction a with
 | nil =>
  intro b c h1 h2
  cases b with
  | nil => simp [Op.bytesLess] at h1
  | cons y b =>
   cases c with
   | nil => simp [Op.bytesLess] at h2
   | cons z c => simp [Op.bytesLess]
 | cons x a ih =>
  intro b c h1 h2
  cases b with
  | nil => simp [Op.bytesLess] at h1
  | cons y b =>
   cases c with
   | nil => simp [Op.bytesLess] at h2
   | cons z c =>
    rw [bl_cons] at h1 h2 ⊢
    simp only [Bool.or_eq_true, Bool.and_eq_true, decide_eq_true_eq, beq_iff_eq] at h1 h2 ⊢
    rcases h1 with h1 | ⟨rfl, h1⟩
    ·rcases h2 with h2 | ⟨rfl, h2⟩
     ·left
      have := UInt8.lt_iff_toNat_lt.1 h1
      have := UInt8.lt_iff_toNat_lt.1 h2
      exact UInt8.lt_iff_toNat_lt.2 (by omega)
     ·exact .inl h1
    ·rcases h2 with h2 | ⟨rfl, h2⟩
     ·exact .inl h2
     ·exact .inr ⟨rfl, ih h1 h2⟩
def Twin {α β : Type} (g : Nat → Option α) (g' : Nat → Option β) (R : α → β → Prop) : Prop := ∃ a b, Ev g a ∧ Ev g' b ∧ R a b
section
variable {α β γ δ : Type} {R : α → β → Prop}
theorem Twin.of {g : Nat → Option α} {g' : Nat → Option β} {a : α} {b : β} (h : Ev g a) (h' : Ev g' b) (r : R a b) : Twin g g' R := ⟨a, b, h, h', r⟩
theorem Twin.now {a : α} {b : β} (r : R a b) : Twin (fun _ => some a) (fun _ => some b) R := ⟨a, b, Ev.now _, Ev.now _, r⟩
theorem Twin.mono {g : Nat → Option α} {g' : Nat → Option β} {S : α → β → Prop} (h : Twin g g' S) (k : ∀ a b, S a b → R a b) : Twin g g' R := by
 obtain ⟨a, b, h1, h2, h3⟩ := h
 exact ⟨a, b, h1, h2, k a b h3⟩
theorem Twin.bind {g : Nat → Option γ} {g' : Nat → Option δ} {S : γ → δ → Prop} {f : Nat → γ → Option α} {f' : Nat → δ → Option β} (t : Twin g g' S) (k : ∀ a b, S a b → Twin (fun n => f n a) (fun n => f' n b) R) :
 Twin (fun n => (g n).bind (f n)) (fun n => (g' n).bind (f' n)) R := by
 obtain ⟨a, b, h1, h2, h3⟩ := t
 obtain ⟨a', b', h1', h2', h3'⟩ := k a b h3
 exact ⟨a', b', Ev.bind h1 h1', Ev.bind h2 h2', h3'⟩
theorem Twin.right {g : Nat → Option α} {g' : Nat → Option β} (t : Twin g g' R) : ∃ b, Ev g' b := by
 obtain ⟨a, b, h1, h2, h3⟩ := t
 exact ⟨b, h2⟩
theorem Ev.split {c : Prop} {hd : Decidable c} {g f : Nat → Option α} {r : α} (y : c → Ev g r) (n : ¬ c → Ev f r) : Ev (fun k => if c then g k else f k) r := by
 by_cases h : c
 ·simp only [if_pos h]; exact y h
 ·simp only [if_neg h]; exact n h
theorem Ev.is {v r : α} (h : v = r) : Ev (fun _ => Option.some v) r := by subst h; exact Ev.now _
end
end Go.Proofs.Ytodnfnnfjnnhmaa.Pure

-- YtodnfnnfjnnhmaaLp
set_option linter.unusedVariables false
set_option linter.unusedSimpArgs false
namespace Go.Proofs.Ytodnfnnfjnnhmaa.Pure
open Go Go.Proofs.Ytodnfnnfjnnhmaa.A

theorem Ev.rng {α β σ : Type} (z : α) (l : List α) (hl : l.length ≤ 4611686018427387904) {g : Nat → σ → Int → Option β} {B : Nat → σ → Int → Option β} {E : Nat → σ → Option β}
 (hg : ∀ k s i, g (k + 1) s i = if decide (i < (l.length : Int)) = true then (if (0 : Int) ≤ i ∧ i < (l.length : Int) then B k s i else none) else E k s)
 (Inv : Nat → σ → Prop) (spec : List α → Nat → σ → β)
 (hfin : ∀ s, Inv l.length s → Ev (fun k => E k s) (spec [] l.length s))
 (hstep : ∀ (i : Nat) (x : α) (xs : List α) (s : σ), i < l.length → x ∈ l → l.drop i = x :: xs → l.getD i z = x → IntKind.wrap .i64 ((i : Int) + 1) = (i : Int) + 1 → Inv i s →
  (∀ s', Inv (i + 1) s' → Ev (fun k => g k s' ((i : Int) + 1)) (spec xs (i + 1) s')) → Ev (fun k => B k s i) (spec (x :: xs) i s)) :
 ∀ (i : Nat) (s : σ), i ≤ l.length → Inv i s → Ev (fun k => g k s i) (spec (l.drop i) i s) := by
 have loop : ∀ (d i : Nat) (s : σ), i + d = l.length → Inv i s → Ev (fun k => g k s i) (spec (l.drop i) i s) := by
  intro d
  induction d with
  | zero =>
   intro i s hi hs
   have : i = l.length := by omega
   subst this
   refine Ev.step (fun k => hg k s _) ?_
   refine Ev.no (by simp) ?_
   rw [List.drop_length]
   exact hfin s hs
  | succ d ih =>
   intro i s hi hs
   refine Ev.step (fun k => hg k s _) ?_
   refine Ev.yes (by simp; omega) (Ev.yes (by omega) ?_)
   rw [List.drop_eq_getElem_cons (show i < l.length by omega)]
   refine hstep i _ _ s (by omega) (List.getElem_mem _) (List.drop_eq_getElem_cons (by omega)) (getD_nat z l i (by omega)) (w64 (by omega) (by omega)) hs fun s' hs' => ?_
   have := ih (i + 1) s' (by omega) hs'
   rw [show ((i + 1 : Nat) : Int) = (i : Int) + 1 by omega] at this
   exact this
 exact fun i s hi hs => loop (l.length - i) i s (by omega) hs
theorem Ev.rngR {α β σ : Type} (z : α) (l : List α) (hl : l.length ≤ 4611686018427387904) {g : Nat → σ → Int → Option β} {B : Nat → σ → Int → Option β} {E : Nat → σ → Option β}
 (hg : ∀ k s i, g (k + 1) s i = if decide (i < (l.length : Int)) = true then (if (0 : Int) ≤ i ∧ i < (l.length : Int) then B k s i else none) else E k s)
 (Inv : Nat → σ → Prop) (Q : β → Prop)
 (hfin : ∀ s, Inv l.length s → ∃ r, Ev (fun k => E k s) r ∧ Q r)
 (hstep : ∀ (i : Nat) (x : α) (s : σ), i < l.length → x ∈ l → l[i]? = Option.some x → l.getD i z = x → IntKind.wrap .i64 ((i : Int) + 1) = (i : Int) + 1 → Inv i s →
  (∀ s', Inv (i + 1) s' → ∃ r, Ev (fun k => g k s' ((i : Int) + 1)) r ∧ Q r) → ∃ r, Ev (fun k => B k s i) r ∧ Q r) :
 ∀ (i : Nat) (s : σ), i ≤ l.length → Inv i s → ∃ r, Ev (fun k => g k s i) r ∧ Q r := by
 have loop : ∀ (d i : Nat) (s : σ), i + d = l.length → Inv i s → ∃ r, Ev (fun k => g k s i) r ∧ Q r := by
  intro d
  induction d with
  | zero =>
   intro i s hi hs
   have : i = l.length := by omega
   subst this
   obtain ⟨r, h1, h2⟩ := hfin s hs
   exact ⟨r, Ev.step (fun k => hg k s _) (Ev.no (by simp) h1), h2⟩
  | succ d ih =>
   intro i s hi hs
   have hs' := hstep i l[i] s (by omega) (List.getElem_mem _) (List.getElem?_eq_getElem (by omega)) (getD_nat z l i (by omega)) (w64 (by omega) (by omega)) hs fun s' hs' => by
    have := ih (i + 1) s' (by omega) hs'
    rw [show ((i + 1 : Nat) : Int) = (i : Int) + 1 by omega] at this
    exact this
   obtain ⟨r, h1, h2⟩ := hs'
   exact ⟨r, Ev.step (fun k => hg k s _) (Ev.yes (by simp; omega) (Ev.yes (by omega) h1)), h2⟩
 exact fun i s hi hs => loop (l.length - i) i s (by omega) hs
theorem Ev.cast {α : Type} {g : Nat → Option α} {a b : α} (h : a = b) (e : Ev g a) : Ev g b := h ▸ e

end Go.Proofs.Ytodnfnnfjnnhmaa.Pure

-- YtodnfnnfjnnhmaaQ1
set_option linter.unusedVariables false
set_option linter.unusedSimpArgs false
namespace Go.Proofs.Ytodnfnnfjnnhmaa.Pure
open Go Go.Proofs.Ytodnfnnfjnnhmaa.A

theorem in_ev (n : Nat) (a l h : Int) : kit_In.f n a l h = some (decide (l ≤ a ∧ a ≤ h), ()) := by
 rw [kit_In.f_eq]
 by_cases h1 : l ≤ a <;> simp [h1]
theorem range_ev (n : Nat) (a l h : Int) : kit_Range.f n a l h = some (if l ≤ a ∧ a ≤ h then 0 else 1, ()) := by
 rw [kit_Range.f_eq, in_ev]
 by_cases h1 : l ≤ a ∧ a ≤ h <;> simp [h1]
def firstN : List Int → Int
 | [] => 0
 | x :: l => if x = 0 then firstN l else x
theorem first_ev (l : List Int) (hl : l.length ≤ 4611686018427387904) : Ev (fun k => kit_First.f k l) (firstN l, ()) := by
 refine Ev.eq (fun k => by rw [kit_First.f_eq]) ?_
 have h := Ev.rng (σ := Unit) (0 : Int) l hl (g := fun k _ i => kit_First.c0 k l (l.length : Int) i) (fun k _ i => kit_First.c0_eq _ _ _ _)
  (fun _ _ => True) (fun r _ _ => (firstN r, ())) (fun _ _ => Ev.is rfl) (fun i x xs _ hi hx hd hget hw _ next => by
   simp only [Int.toNat_natCast, hget, hw, Bool.not_eq_true', decide_eq_false_iff_not]
   refine Ev.split (fun h => Ev.is (by rw [firstN, if_neg h])) (fun h => ?_)
   have h : x = 0 := Classical.byContradiction h
   have := next () trivial
   rw [firstN, if_pos h]
   exact this) 0 () (by omega) trivial
 exact h
theorem firstN_zero : ∀ {l : List Int}, firstN l = 0 ↔ ∀ x ∈ l, x = 0
 | [] => by simp [firstN]
 | x :: l => by
  rw [firstN]
  by_cases h : x = 0
  ·rw [if_pos h, firstN_zero]; simp [h]
  ·rw [if_neg h]; simp [h]

theorem chk_loop {α : Type} (l : List α) (hl : l.length ≤ 4611686018427387904) {g : Nat → Int → Option (Int × Unit)} {B : Nat → Int → Option (Int × Unit)}
 (hg : ∀ k i, g (k + 1) i = if decide (i < (l.length : Int)) = true then (if (0 : Int) ≤ i ∧ i < (l.length : Int) then B k i else none) else some (0, ()))
 (Cond : Nat → Prop) (hstep : ∀ i : Nat, i < l.length → (∃ c : Int, c ≠ 0 ∧ ¬ Cond i ∧ Ev (fun k => B k i) (c, ())) ∨ (Cond i ∧ ∀ r, Ev (fun k => g k (IntKind.wrap .i64 ((i : Int) + 1))) r → Ev (fun k => B k i) r)) :
 ∃ c : Int, Ev (fun k => g k 0) (c, ()) ∧ (c = 0 ↔ ∀ j, j < l.length → Cond j) := by
 have loop : ∀ (d i : Nat), i + d = l.length → ∃ c : Int, Ev (fun k => g k i) (c, ()) ∧ (c = 0 ↔ ∀ j, i ≤ j → j < l.length → Cond j) := by
  intro d
  induction d with
  | zero =>
   intro i hi
   refine ⟨0, Ev.step (fun k => hg k _) (Ev.no (by simp; omega) (Ev.now _)), ?_⟩
   simp; intro j h1 h2; omega
  | succ d ih =>
   intro i hi
   rcases hstep i (by omega) with ⟨c, c0, c1, c2⟩ | ⟨c1, c2⟩
   ·refine ⟨c, Ev.step (fun k => hg k _) (Ev.yes (by simp; omega) (Ev.yes (by omega) c2)), ?_⟩
    constructor
    ·intro h; exact absurd h c0
    ·intro h; exact absurd (h i (Nat.le_refl _) (by omega)) c1
   ·obtain ⟨c, e1, e2⟩ := ih (i + 1) (by omega)
    refine ⟨c, Ev.step (fun k => hg k _) (Ev.yes (by simp; omega) (Ev.yes (by omega) (c2 _ ?_))), ?_⟩
    ·rw [w64 (by omega) (by omega)]; exact e1
    ·rw [e2]
     constructor
     ·intro h j h1 h2
      rcases Nat.lt_or_ge i j with h3 | h3
      ·exact h j h3 h2
      ·obtain rfl : i = j := by omega
       exact c1
     ·intro h j h1 h2; exact h j (by omega) h2
 obtain ⟨c, e1, e2⟩ := loop l.length 0 (by omega)
 refine ⟨c, e1, e2.trans ⟨fun h j hj => h j (by omega) hj, fun h j _ hj => h j hj⟩⟩

theorem name_ex (s : List UInt8) (hs : s.length ≤ 140737488351232) : ∃ b, Ev (fun k => monitor_IsName.f k s) (b, ()) ∧ (b = true → s.length ≤ 40) := by
 by_cases h0 : s = []
 ·exact ⟨false, Ev.eq (fun k => by rw [monitor_IsName.f_eq]) (Ev.yes (by simpa using h0) (Ev.now _)), fun h => by cases h⟩
 by_cases h1 : 40 < (s.length : Int)
 ·exact ⟨false, Ev.eq (fun k => by rw [monitor_IsName.f_eq]) (Ev.no (by simpa using h0) (Ev.yes (by simpa using h1) (Ev.now _))), fun h => by cases h⟩
 have h := Ev.rngR (σ := Unit) (0 : UInt8) s (by omega) (g := fun k _ i => monitor_IsName.c1 k s (s.length : Int) i) (fun k _ i => monitor_IsName.c1_eq _ _ _ _)
  (fun _ _ => True) (fun r : Bool × Unit => True) (fun _ _ => ⟨_, Ev.now _, trivial⟩) (fun i x _ hi hx _ hget hw _ next => by
   simp only [Int.toNat_natCast, hget, hw]
   obtain ⟨r, n1, _⟩ := next () trivial
   have key : ∀ {g : Nat → Option (Bool × Unit)}, (Ev g (false, ()) ∨ Ev g r) → ∃ r, Ev g r ∧ True := fun h => h.elim (fun h => ⟨_, h, trivial⟩) (fun h => ⟨_, h, trivial⟩)
   have sp : ∀ {c : Prop} {hd : Decidable c} {g f : Nat → Option (Bool × Unit)}, (Ev g (false, ()) ∨ Ev g r) → (Ev f (false, ()) ∨ Ev f r) → (Ev (fun k => if c then g k else f k) (false, ()) ∨ Ev (fun k => if c then g k else f k) r) := fun {c hd g f} y n => by
    by_cases h : c
    ·exact y.imp (fun y => Ev.yes h y) (fun y => Ev.yes h y)
    ·exact n.imp (fun n => Ev.no h n) (fun n => Ev.no h n)
   have F : Ev (fun _ : Nat => some (false, ())) (false, ()) ∨ Ev (fun _ : Nat => some (false, ())) r := .inl (Ev.now _)
   have N : Ev (fun k => monitor_IsName.c1 k s (s.length : Int) ((i : Int) + 1)) (false, ()) ∨ Ev (fun k => monitor_IsName.c1 k s (s.length : Int) ((i : Int) + 1)) r := .inr n1
   exact key (sp (sp F (sp (sp (sp F (sp F N)) N) N)) (sp (sp F (sp (sp (sp F (sp F N)) N) N)) N))) 0 () (by omega) trivial
 obtain ⟨⟨b, u⟩, h2, _⟩ := h
 have h2 : Ev (fun k => monitor_IsName.c1 k s (s.length : Int) 0) (b, u) := h2
 exact ⟨b, Ev.eq (fun k => by rw [monitor_IsName.f_eq]) (Ev.no (by simpa using h0) (Ev.no (by simpa using h1) (Ev.step (fun k => by rw [monitor_IsName.c0_eq]) h2))), fun _ => by omega⟩
open Classical in
noncomputable def isNm (s : List UInt8) : Bool := if Ev (fun k => monitor_IsName.f k s) (true, ()) then true else false
theorem name_ev (s : List UInt8) (hs : s.length ≤ 140737488351232) : Ev (fun k => monitor_IsName.f k s) (isNm s, ()) ∧ (isNm s = true → s.length ≤ 40) := by
 obtain ⟨b, h1, h2⟩ := name_ex s hs
 have : isNm s = b := by
  unfold isNm
  cases b with
  | true => rw [if_pos h1]
  | false =>
   rw [if_neg]
   intro h
   have := h.unique h1
   simp at this
 rw [this]
 exact ⟨h1, h2⟩

structure LimOk (x : DLimit) : Prop where
 nm : isNm x.1 = true
 ll : -1000000000 ≤ x.2.1 ∧ x.2.1 ≤ 1000000000
 l : -1000000000 ≤ x.2.2.1 ∧ x.2.2.1 ≤ 1000000000
 h : -1000000000 ≤ x.2.2.2.1 ∧ x.2.2.2.1 ≤ 1000000000
 hh : -1000000000 ≤ x.2.2.2.2.1 ∧ x.2.2.2.2.1 ≤ 1000000000
 o1 : x.2.1 ≤ x.2.2.1
 o2 : x.2.2.1 ≤ x.2.2.2.1
 o3 : x.2.2.2.1 ≤ x.2.2.2.2.1
 cnt : 1 ≤ x.2.2.2.2.2.1 ∧ x.2.2.2.2.2.1 ≤ 100
 clr : 1 ≤ x.2.2.2.2.2.2.1 ∧ x.2.2.2.2.2.2.1 ≤ 100
 bk : 0 ≤ x.2.2.2.2.2.2.2 ∧ x.2.2.2.2.2.2.2 ≤ 1000000000
def LCond (l : List DLimit) (i : Nat) : Prop := LimOk (l.getD i (Ty.dflt YLimit)) ∧ (0 < i → lessS (l.getD (i - 1) (Ty.dflt YLimit)).1 (l.getD i (Ty.dflt YLimit)).1 = true)
def LimsOk (l : List DLimit) : Prop := l.length ≤ 200 ∧ ∀ j, j < l.length → LCond l j
theorem limits_ev (l : List DLimit) (hn : ∀ x ∈ l, x.1.length ≤ 140737488351232) : ∃ c, Ev (fun k => monitor_CheckLimits.f k l) (c, ()) ∧ (c = 0 ↔ LimsOk l) := by
 by_cases h0 : 200 < (l.length : Int)
 ·refine ⟨2, Ev.eq (fun k => by rw [monitor_CheckLimits.f_eq]) (Ev.yes (by simpa using h0) (Ev.now _)), ?_⟩
  constructor
  ·intro h; cases h
  ·intro h; have := h.1; omega
 obtain ⟨c, c1, c2⟩ := chk_loop l (by omega) (g := fun k i => monitor_CheckLimits.c0 k l l (l.length : Int) i) (fun k i => monitor_CheckLimits.c0_eq _ _ _ _ _) (LCond l) (fun i hi => by
  simp only [Int.toNat_natCast]
  have hm := getD_mem (z := Ty.dflt YLimit) hi
  have hnx := hn _ hm
  unfold LCond
  generalize l.getD i (Ty.dflt YLimit) = x at *
  obtain ⟨nv, nl⟩ := name_ev x.1 hnx
  by_cases h1 : isNm x.1 = true
  case neg => exact .inl ⟨5, by omega, fun h => h1 h.1.nm, Ev.bind nv (Ev.yes (by simpa using h1) (Ev.now _))⟩
  -- the four numbers
  have four : ∀ {r : Int × Unit}, (∀ j : Nat, j < 4 → -1000000000 ≤ [x.2.1, x.2.2.1, x.2.2.2.1, x.2.2.2.2.1].getD j 0 ∧ [x.2.1, x.2.2.1, x.2.2.2.1, x.2.2.2.2.1].getD j 0 ≤ 1000000000) →
   Ev (fun k => if (decide (x.2.2.1 < x.2.1)) = true then some (8, ()) else if (decide (x.2.2.2.1 < x.2.2.1)) = true then some (8, ()) else if (decide (x.2.2.2.2.1 < x.2.2.2.1)) = true then some (8, ()) else monitor_CheckLimits.c2 k l i x.1 x.2.1 x.2.2.1 x.2.2.2.1 x.2.2.2.2.1 x.2.2.2.2.2.1 x.2.2.2.2.2.2.1 x.2.2.2.2.2.2.2 l (l.length : Int) i) r →
   Ev (fun k => monitor_CheckLimits.c1 k l i x.1 x.2.1 x.2.2.1 x.2.2.2.1 x.2.2.2.2.1 x.2.2.2.2.2.1 x.2.2.2.2.2.2.1 x.2.2.2.2.2.2.2 l (l.length : Int) i [x.2.1, x.2.2.1, x.2.2.2.1, x.2.2.2.2.1] 4 0) r := fun {r} hall next => by
   have lp : ∀ (d j : Nat), j + d = 4 → Ev (fun k => monitor_CheckLimits.c1 k l i x.1 x.2.1 x.2.2.1 x.2.2.2.1 x.2.2.2.2.1 x.2.2.2.2.2.1 x.2.2.2.2.2.2.1 x.2.2.2.2.2.2.2 l (l.length : Int) i [x.2.1, x.2.2.1, x.2.2.2.1, x.2.2.2.2.1] 4 j) r := by
    intro d
    induction d with
    | zero =>
     intro j hj
     refine Ev.step (fun k => by rw [monitor_CheckLimits.c1_eq]) (Ev.no (by simp; omega) next)
    | succ d ih =>
     intro j hj
     refine Ev.step (fun k => by rw [monitor_CheckLimits.c1_eq]) (Ev.yes (by simp; omega) (Ev.yes (by simp; omega) ?_))
     simp only [in_ev, Option.bind_some, Int.toNat_natCast]
     refine Ev.no (by rw [decide_eq_true (hall j (by omega))]; simp) ?_
     rw [w64 (by omega) (by omega)]
     exact ih (j + 1) (by omega)
   exact lp 4 0 rfl
  have fail : ∀ (j : Nat), j < 4 → ¬ (-1000000000 ≤ [x.2.1, x.2.2.1, x.2.2.2.1, x.2.2.2.2.1].getD j 0 ∧ [x.2.1, x.2.2.1, x.2.2.2.1, x.2.2.2.2.1].getD j 0 ≤ 1000000000) → Ev (fun k => monitor_CheckLimits.c1 k l i x.1 x.2.1 x.2.2.1 x.2.2.2.1 x.2.2.2.2.1 x.2.2.2.2.2.1 x.2.2.2.2.2.2.1 x.2.2.2.2.2.2.2 l (l.length : Int) i [x.2.1, x.2.2.1, x.2.2.2.1, x.2.2.2.2.1] 4 0) (1, ()) := fun j0 hj0 hbad => by
   have lp : ∀ (d j : Nat), j + d = j0 → Ev (fun k => monitor_CheckLimits.c1 k l i x.1 x.2.1 x.2.2.1 x.2.2.2.1 x.2.2.2.2.1 x.2.2.2.2.2.1 x.2.2.2.2.2.2.1 x.2.2.2.2.2.2.2 l (l.length : Int) i [x.2.1, x.2.2.1, x.2.2.2.1, x.2.2.2.2.1] 4 j) (1, ()) := by
    intro d
    induction d with
    | zero =>
     intro j hj
     obtain rfl : j = j0 := by omega
     refine Ev.step (fun k => by rw [monitor_CheckLimits.c1_eq]) (Ev.yes (by simp; omega) (Ev.yes (by simp; omega) ?_))
     simp only [in_ev, Option.bind_some, Int.toNat_natCast]
     exact Ev.yes (by rw [decide_eq_false hbad]; rfl) (Ev.now _)
    | succ d ih =>
     intro j hj
     refine Ev.step (fun k => by rw [monitor_CheckLimits.c1_eq]) (Ev.yes (by simp; omega) (Ev.yes (by simp; omega) ?_))
     simp only [in_ev, Option.bind_some, Int.toNat_natCast]
     refine Ev.split (fun _ => Ev.now _) (fun _ => ?_)
     rw [w64 (by omega) (by omega)]
     exact ih (j + 1) (by omega)
   exact lp j0 0 (by omega)
  by_cases f0 : -1000000000 ≤ x.2.1 ∧ x.2.1 ≤ 1000000000
  case neg => exact .inl ⟨1, by omega, fun h => f0 h.1.ll, Ev.bind nv (Ev.no (by simp [h1]) (fail 0 (by omega) f0))⟩
  by_cases f1 : -1000000000 ≤ x.2.2.1 ∧ x.2.2.1 ≤ 1000000000
  case neg => exact .inl ⟨1, by omega, fun h => f1 h.1.l, Ev.bind nv (Ev.no (by simp [h1]) (fail 1 (by omega) f1))⟩
  by_cases f2 : -1000000000 ≤ x.2.2.2.1 ∧ x.2.2.2.1 ≤ 1000000000
  case neg => exact .inl ⟨1, by omega, fun h => f2 h.1.h, Ev.bind nv (Ev.no (by simp [h1]) (fail 2 (by omega) f2))⟩
  by_cases f3 : -1000000000 ≤ x.2.2.2.2.1 ∧ x.2.2.2.2.1 ≤ 1000000000
  case neg => exact .inl ⟨1, by omega, fun h => f3 h.1.hh, Ev.bind nv (Ev.no (by simp [h1]) (fail 3 (by omega) f3))⟩
  have hall : ∀ j : Nat, j < 4 → -1000000000 ≤ [x.2.1, x.2.2.1, x.2.2.2.1, x.2.2.2.2.1].getD j 0 ∧ [x.2.1, x.2.2.1, x.2.2.2.1, x.2.2.2.2.1].getD j 0 ≤ 1000000000 := fun j hj => by
   match j, hj with
   | 0, _ => exact f0
   | 1, _ => exact f1
   | 2, _ => exact f2
   | 3, _ => exact f3
  by_cases g1 : x.2.2.1 < x.2.1
  ·exact .inl ⟨8, by omega, fun h => by have := h.1.o1; omega, Ev.bind nv (Ev.no (by simp [h1]) (four hall (Ev.yes (by simpa using g1) (Ev.now _))))⟩
  by_cases g2 : x.2.2.2.1 < x.2.2.1
  ·exact .inl ⟨8, by omega, fun h => by have := h.1.o2; omega, Ev.bind nv (Ev.no (by simp [h1]) (four hall (Ev.no (by simpa using g1) (Ev.yes (by simpa using g2) (Ev.now _)))))⟩
  by_cases g3 : x.2.2.2.2.1 < x.2.2.2.1
  ·exact .inl ⟨8, by omega, fun h => by have := h.1.o3; omega, Ev.bind nv (Ev.no (by simp [h1]) (four hall (Ev.no (by simpa using g1) (Ev.no (by simpa using g2) (Ev.yes (by simpa using g3) (Ev.now _))))))⟩
  have go : ∀ {r : Int × Unit}, Ev (fun k => monitor_CheckLimits.c2 k l i x.1 x.2.1 x.2.2.1 x.2.2.2.1 x.2.2.2.2.1 x.2.2.2.2.2.1 x.2.2.2.2.2.2.1 x.2.2.2.2.2.2.2 l (l.length : Int) i) r → Ev (fun k => (monitor_IsName.f k x.1).bind fun r1 => if (!r1.1) = true then some (5, ()) else monitor_CheckLimits.c1 k l i x.1 x.2.1 x.2.2.1 x.2.2.2.1 x.2.2.2.2.1 x.2.2.2.2.2.1 x.2.2.2.2.2.2.1 x.2.2.2.2.2.2.2 l (l.length : Int) i [x.2.1, x.2.2.1, x.2.2.2.1, x.2.2.2.2.1] 4 0) r := fun {r} h => Ev.bind nv (Ev.no (by simp [h1]) (four hall (Ev.no (by simpa using g1) (Ev.no (by simpa using g2) (Ev.no (by simpa using g3) h)))))
  by_cases h2 : 1 ≤ x.2.2.2.2.2.1 ∧ x.2.2.2.2.2.1 ≤ 100
  case neg =>
   refine .inl ⟨1, by omega, fun h => h2 h.1.cnt, go (Ev.step (fun k => by rw [monitor_CheckLimits.c2_eq]) ?_)⟩
   simp only [in_ev, Option.bind_some]
   exact Ev.yes (by rw [decide_eq_false h2]; rfl) (Ev.now _)
  by_cases h3 : 1 ≤ x.2.2.2.2.2.2.1 ∧ x.2.2.2.2.2.2.1 ≤ 100
  case neg =>
   refine .inl ⟨1, by omega, fun h => h3 h.1.clr, go (Ev.step (fun k => by rw [monitor_CheckLimits.c2_eq]) ?_)⟩
   simp only [in_ev, Option.bind_some]
   exact Ev.no (by simp [h2]) (Ev.yes (by rw [decide_eq_false h3]; rfl) (Ev.now _))
  by_cases h4 : 0 ≤ x.2.2.2.2.2.2.2 ∧ x.2.2.2.2.2.2.2 ≤ 1000000000
  case neg =>
   refine .inl ⟨1, by omega, fun h => h4 h.1.bk, go (Ev.step (fun k => by rw [monitor_CheckLimits.c2_eq]) ?_)⟩
   simp only [in_ev, Option.bind_some]
   exact Ev.no (by simp [h2]) (Ev.no (by simp [h3]) (Ev.yes (by rw [decide_eq_false h4]; rfl) (Ev.now _)))
  have ok : LimOk x := ⟨h1, f0, f1, f2, f3, by omega, by omega, by omega, h2, h3, h4⟩
  have go2 : ∀ {r : Int × Unit}, Ev (fun k => monitor_CheckLimits.c3 k l i x.1 x.2.1 x.2.2.1 x.2.2.2.1 x.2.2.2.2.1 x.2.2.2.2.2.1 x.2.2.2.2.2.2.1 x.2.2.2.2.2.2.2 l (l.length : Int) i) r → Ev (fun k => (monitor_IsName.f k x.1).bind fun r1 => if (!r1.1) = true then some (5, ()) else monitor_CheckLimits.c1 k l i x.1 x.2.1 x.2.2.1 x.2.2.2.1 x.2.2.2.2.1 x.2.2.2.2.2.1 x.2.2.2.2.2.2.1 x.2.2.2.2.2.2.2 l (l.length : Int) i [x.2.1, x.2.2.1, x.2.2.2.1, x.2.2.2.2.1] 4 0) r := fun {r} h => go (r := r) (Ev.step (fun k => by rw [monitor_CheckLimits.c2_eq]) (by
   simp only [in_ev, Option.bind_some]
   exact Ev.no (by simp [h2]) (Ev.no (by simp [h3]) (Ev.no (by simp [h4]) h))))
  by_cases hi0 : 0 < i
  ·have hw : IntKind.wrap .i64 ((i : Int) - 1) = ((i - 1 : Nat) : Int) := by rw [w64 (by omega) (by omega)]; omega
   by_cases hls : lessS (l.getD (i - 1) (Ty.dflt YLimit)).1 x.1 = true
   ·refine .inr ⟨⟨ok, fun _ => hls⟩, fun r hr => go2 (Ev.step (fun k => by rw [monitor_CheckLimits.c3_eq]) (Ev.yes (by simpa using hi0) (Ev.yes (by rw [hw]; omega) ?_)))⟩
    rw [hw, Int.toNat_natCast]
    exact Ev.no (by rw [hls]; simp) hr
   ·refine .inl ⟨8, by omega, fun h => hls (h.2 hi0), go2 (Ev.step (fun k => by rw [monitor_CheckLimits.c3_eq]) (Ev.yes (by simpa using hi0) (Ev.yes (by rw [hw]; omega) ?_)))⟩
    rw [hw, Int.toNat_natCast]
    exact Ev.yes (by rw [eq_false_of_ne_true hls]; rfl) (Ev.now _)
  ·exact .inr ⟨⟨ok, fun h => absurd h hi0⟩, fun r hr => go2 (Ev.step (fun k => by rw [monitor_CheckLimits.c3_eq]) (Ev.no (by simpa using hi0) hr))⟩)
 refine ⟨c, Ev.eq (fun k => by rw [monitor_CheckLimits.f_eq]) (Ev.no (by simpa using h0) c1), c2.trans ⟨fun h => ⟨by omega, h⟩, fun h => h.2⟩⟩

structure SamOk (x : DSample) : Prop where
 at_ : 0 ≤ x.1 ∧ x.1 ≤ 1000000000000
 nm : isNm x.2.1 = true
 v : -1000000000 ≤ x.2.2 ∧ x.2.2 ≤ 1000000000
def bef (a b : DSample) : Prop := a.1 < b.1 ∨ (a.1 = b.1 ∧ lessS a.2.1 b.2.1 = true)
theorem bef_trans {a b c : DSample} (h1 : bef a b) (h2 : bef b c) : bef a c := by
 rcases h1 with h1 | ⟨h1, k1⟩ <;> rcases h2 with h2 | ⟨h2, k2⟩
 ·exact .inl (by omega)
 ·exact .inl (by omega)
 ·exact .inl (by omega)
 ·exact .inr ⟨by omega, less_trans k1 k2⟩
def SCond (l : List DSample) (i : Nat) : Prop := SamOk (l.getD i (Ty.dflt YSample)) ∧ (0 < i → bef (l.getD (i - 1) (Ty.dflt YSample)) (l.getD i (Ty.dflt YSample)))
def SamsOk (l : List DSample) : Prop := l.length ≤ 5000 ∧ (∀ x ∈ l, SamOk x) ∧ l.Pairwise bef
theorem chain_pair {α : Type} {R : α → α → Prop} (tr : ∀ a b c, R a b → R b c → R a c) (z : α) : ∀ (l : List α), (∀ j, j < l.length → 0 < j → R (l.getD (j - 1) z) (l.getD j z)) ↔ l.Pairwise R
 | [] => by simp
 | [x] => by simp
 | x :: y :: l => by
  have ih := chain_pair tr z (y :: l)
  constructor
  ·intro h
   have h1 := ih.1 (fun j hj hj0 => by
    have := h (j + 1) (by simp at hj ⊢; omega) (by omega)
    obtain ⟨i, rfl⟩ : ∃ i, j = i + 1 := ⟨j - 1, by omega⟩
    simpa using this)
   have h0 : R x y := by simpa using h 1 (by simp) (by omega)
   rw [List.pairwise_cons]
   refine ⟨fun b hb => ?_, h1⟩
   rcases List.mem_cons.1 hb with rfl | hb
   ·exact h0
   ·exact tr _ _ _ h0 ((List.pairwise_cons.1 h1).1 b hb)
  ·intro h j hj hj0
   rw [List.pairwise_cons] at h
   by_cases h1 : j = 1
   ·subst h1; simpa using h.1 y (by simp)
   ·obtain ⟨i, rfl⟩ : ∃ i, j = i + 2 := ⟨j - 2, by omega⟩
    have := ih.2 h.2 (i + 1) (by simp at hj ⊢; omega) (by omega)
    simpa using this
theorem sconds {l : List DSample} (hl : l.length ≤ 5000) : (∀ j, j < l.length → SCond l j) ↔ SamsOk l := by
 unfold SamsOk
 rw [← chain_pair (R := bef) (fun _ _ _ h1 h2 => bef_trans h1 h2) (Ty.dflt YSample) l]
 constructor
 ·intro h
  refine ⟨hl, fun x hx => ?_, fun j hj hj0 => (h j hj).2 hj0⟩
  obtain ⟨j, hj, rfl⟩ := List.getElem_of_mem hx
  have := (h j hj).1
  rwa [getD_nat _ _ j hj] at this
 ·intro ⟨_, h1, h2⟩ j hj
  exact ⟨h1 _ (getD_mem hj), h2 j hj⟩
theorem before_ev (k : Nat) (a b : DSample) : ∃ r, monitor_before.f k a b = some (r, ()) ∧ (r = true ↔ bef a b) := by
 rw [monitor_before.f_eq]
 unfold bef
 by_cases h1 : a.1 < b.1
 ·exact ⟨true, by simp [h1], by simp [h1]⟩
 ·by_cases h2 : a.1 = b.1
  ·exact ⟨lessS a.2.1 b.2.1, by simp [h1, h2], by simp [h1, h2]⟩
  ·exact ⟨false, by simp [h1, h2], by simp [h1, h2]⟩
theorem samples_ev (l : List DSample) (hn : ∀ x ∈ l, x.2.1.length ≤ 140737488351232) : ∃ c, Ev (fun k => monitor_CheckSamples.f k l) (c, ()) ∧ (c = 0 ↔ SamsOk l) := by
 by_cases h0 : 5000 < (l.length : Int)
 ·refine ⟨2, Ev.eq (fun k => by rw [monitor_CheckSamples.f_eq]) (Ev.yes (by simpa using h0) (Ev.now _)), ?_⟩
  constructor
  ·intro h; cases h
  ·intro h; have := h.1; omega
 obtain ⟨c, c1, c2⟩ := chk_loop l (by omega) (g := fun k i => monitor_CheckSamples.c0 k l l (l.length : Int) i) (fun k i => monitor_CheckSamples.c0_eq _ _ _ _ _) (SCond l) (fun i hi => by
  simp only [Int.toNat_natCast]
  have hm := getD_mem (z := Ty.dflt YSample) hi
  have hnx := hn _ hm
  unfold SCond
  generalize l.getD i (Ty.dflt YSample) = x at *
  obtain ⟨nv, nl⟩ := name_ev x.2.1 hnx
  simp only [in_ev, Option.bind_some]
  by_cases h1 : 0 ≤ x.1 ∧ x.1 ≤ 1000000000000
  case neg => exact .inl ⟨1, by omega, fun h => h1 h.1.at_, Ev.yes (by rw [decide_eq_false h1]; rfl) (Ev.now _)⟩
  by_cases h2 : isNm x.2.1 = true
  case neg => exact .inl ⟨5, by omega, fun h => h2 h.1.nm, Ev.no (by simp [h1]) (Ev.bind nv (Ev.yes (by simpa using h2) (Ev.now _)))⟩
  by_cases h3 : -1000000000 ≤ x.2.2 ∧ x.2.2 ≤ 1000000000
  case neg => exact .inl ⟨1, by omega, fun h => h3 h.1.v, Ev.no (by simp [h1]) (Ev.bind nv (Ev.no (by simp [h2]) (Ev.yes (by rw [decide_eq_false h3]; rfl) (Ev.now _))))⟩
  by_cases hi0 : 0 < i
  ·have hw : IntKind.wrap .i64 ((i : Int) - 1) = ((i - 1 : Nat) : Int) := by rw [w64 (by omega) (by omega)]; omega
   have be : ∃ r, (∀ k, monitor_before.f k (l.getD (i - 1) (Ty.dflt YSample)) x = some (r, ())) ∧ (r = true ↔ bef (l.getD (i - 1) (Ty.dflt YSample)) x) := by
    obtain ⟨r, r1, r2⟩ := before_ev 0 (l.getD (i - 1) (Ty.dflt YSample)) x
    refine ⟨r, fun k => ?_, r2⟩
    rw [monitor_before.f_eq] at r1 ⊢
    exact r1
   obtain ⟨r, r1, r2⟩ := be
   by_cases hb : r = true
   ·refine .inr ⟨⟨⟨h1, h2, h3⟩, fun _ => r2.1 hb⟩, fun q hq => Ev.no (by simp [h1]) (Ev.bind nv (Ev.no (by simp [h2]) (Ev.no (by simp [h3]) (Ev.yes (by simpa using hi0) (Ev.yes (by rw [hw]; omega) ?_)))))⟩
    rw [hw, Int.toNat_natCast]
    simp only [r1, Option.bind_some]
    exact Ev.no (by simp [hb]) hq
   ·refine .inl ⟨8, by omega, fun h => hb (r2.2 (h.2 hi0)), Ev.no (by simp [h1]) (Ev.bind nv (Ev.no (by simp [h2]) (Ev.no (by simp [h3]) (Ev.yes (by simpa using hi0) (Ev.yes (by rw [hw]; omega) ?_)))))⟩
    rw [hw, Int.toNat_natCast]
    simp only [r1, Option.bind_some]
    exact Ev.yes (by simp [hb]) (Ev.now _)
  ·exact .inr ⟨⟨⟨h1, h2, h3⟩, fun h => absurd h hi0⟩, fun q hq => Ev.no (by simp [h1]) (Ev.bind nv (Ev.no (by simp [h2]) (Ev.no (by simp [h3]) (Ev.no (by simpa using hi0) hq))))⟩)
 refine ⟨c, Ev.eq (fun k => by rw [monitor_CheckSamples.f_eq]) (Ev.no (by simpa using h0) c1), c2.trans (sconds (by omega))⟩
end Go.Proofs.Ytodnfnnfjnnhmaa.Pure

-- YtodnfnnfjnnhmaaQ2
set_option linter.unusedVariables false
set_option linter.unusedSimpArgs false
namespace Go.Proofs.Ytodnfnnfjnnhmaa.Pure
open Go Go.Proofs.Ytodnfnnfjnnhmaa.A

def st (x : DLimit) (v : Int) : Int := if v < x.2.1 then 2 else if x.2.2.2.2.1 < v then 2 else if v < x.2.2.1 then 1 else if x.2.2.2.1 < v then 1 else 0
theorem state_ev (k : Nat) (x : DLimit) (v : Int) : monitor_state.f k x v = some (st x v, ()) := by
 rw [monitor_state.f_eq]
 unfold st
 simp only [decide_eq_true_eq]
 split
 ·rfl
 ·split
  ·rfl
  ·split
   ·rfl
   ·split <;> rfl
theorem st_rng (x : DLimit) (v : Int) : 0 ≤ st x v ∧ st x v ≤ 2 := by
 unfold st
 repeat' split
 all_goals omega
abbrev cntOf (x : DLimit) : Int := x.2.2.2.2.2.1
abbrev clrOf (x : DLimit) : Int := x.2.2.2.2.2.2.1
abbrev bkOf (x : DLimit) : Int := x.2.2.2.2.2.2.2
def best (x : DLimit) (l : List Int) : Int := (l.drop (l.length - (cntOf x).toNat)).foldl mnI 2
def worst (x : DLimit) (l : List Int) : Int := (l.drop (l.length - (clrOf x).toNat)).foldl mxI 0
def far (x : DLimit) (v : Int) : Int := mxI (st x (v - bkOf x)) (st x (v + bkOf x))
def second (x : DLimit) (now : Int) (bare out : List Int) : Dfollower := if clrOf x ≤ out.length ∧ worst x out < now then (x, (worst x out, (bare, out))) else (x, (now, (bare, out)))
def stp (f : Dfollower) (v : Int) : Dfollower :=
 if cntOf f.1 ≤ ((f.2.2.1 ++ [st f.1 v]).length : Int) ∧ f.2.1 < best f.1 (f.2.2.1 ++ [st f.1 v]) then (f.1, (best f.1 (f.2.2.1 ++ [st f.1 v]), (f.2.2.1 ++ [st f.1 v], f.2.2.2 ++ [far f.1 v])))
 else second f.1 f.2.1 (f.2.2.1 ++ [st f.1 v]) (f.2.2.2 ++ [far f.1 v])
theorem getD_drop (z : Int) (l : List Int) (i lo : Nat) : l.getD (i + lo) z = (l.drop lo).getD i z := by
 rw [List.getD_eq_getElem?_getD, List.getD_eq_getElem?_getD, List.getElem?_drop, Nat.add_comm]
def fin2 (x : DLimit) (now w : Int) (bare out : List Int) : Dfollower := if w < now then (x, (w, (bare, out))) else (x, (now, (bare, out)))
def fin0 (x : DLimit) (now w : Int) (bare out : List Int) : Dfollower := if now < w then (x, (w, (bare, out))) else second x now bare out
theorem step_c2 (x : DLimit) (now : Int) (bare out : List Int) (lo : Nat) (hl : out.length ≤ 1000000) : ∀ (d i : Nat) (a : Int), i + d = (out.drop lo).length →
 Ev (fun k => monitor_follower_step.c2 k x.1 x.2.1 x.2.2.1 x.2.2.2.1 x.2.2.2.2.1 x.2.2.2.2.2.1 x.2.2.2.2.2.2.1 x.2.2.2.2.2.2.2 now bare out a ((out.drop lo).length : Int) i lo) (fin2 x now (((out.drop lo).drop i).foldl mxI a) bare out, ())
 | 0, i, a, hd => by
  refine Ev.step (fun k => by rw [monitor_follower_step.c2_eq]) (Ev.no (by simp; simp at hd; omega) ?_)
  rw [List.drop_of_length_le (by omega), List.foldl_nil]
  unfold fin2
  simp only [decide_eq_true_eq]
  exact Ev.split (fun h => by rw [if_pos h]; exact Ev.now _) (fun h => by rw [if_neg h]; exact Ev.now _)
 | d + 1, i, a, hd => by
  have hlen : (out.drop lo).length ≤ 1000000 := by rw [List.length_drop]; omega
  refine Ev.step (fun k => by rw [monitor_follower_step.c2_eq]) (Ev.yes (by rw [decide_eq_true_eq]; omega) (Ev.yes (by rw [Int.toNat_natCast]; omega) ?_))
  rw [Int.toNat_natCast, Int.toNat_natCast, getD_drop, getD_nat 0 _ i (by omega), w64 (by omega) (by omega)]
  have ih := step_c2 x now bare out lo hl d (i + 1) (mxI a (out.drop lo)[i]) (by omega)
  rw [List.drop_eq_getElem_cons (show i < (out.drop lo).length by omega), List.foldl_cons]
  exact ih
theorem step_c1 (x : DLimit) (ok : LimOk x) (now : Int) (bare out : List Int) (hl : out.length ≤ 1000000) :
 Ev (fun k => monitor_follower_step.c1 k x.1 x.2.1 x.2.2.1 x.2.2.2.1 x.2.2.2.2.1 x.2.2.2.2.2.1 x.2.2.2.2.2.2.1 x.2.2.2.2.2.2.2 now bare out) (second x now bare out, ()) := by
 have c := ok.clr
 refine Ev.step (fun k => by rw [monitor_follower_step.c1_eq]) ?_
 rw [w64 (x := (out.length : Int) - x.2.2.2.2.2.2.1) (by omega) (by omega)]
 simp only [decide_eq_true_eq]
 unfold second worst clrOf
 refine Ev.split (fun h => Ev.yes (by omega) ?_) (fun h => ?_)
 ·obtain ⟨lo, hlo⟩ : ∃ lo : Nat, (out.length : Int) - x.2.2.2.2.2.2.1 = lo := ⟨((out.length : Int) - x.2.2.2.2.2.2.1).toNat, (Int.toNat_of_nonneg h).symm⟩
  have e : out.length - (x.2.2.2.2.2.2.1).toNat = lo := by omega
  rw [hlo, Int.toNat_natCast, e]
  have := step_c2 x now bare out lo hl _ 0 0 (show 0 + (out.drop lo).length = _ by omega)
  rw [List.drop_zero] at this
  unfold fin2 at this
  by_cases hw : (out.drop lo).foldl mxI 0 < now
  ·rw [if_pos hw] at this
   rw [if_pos ⟨by omega, hw⟩]; exact this
  ·rw [if_neg hw] at this
   rw [if_neg (fun h => hw h.2)]; exact this
 ·rw [if_neg (by omega)]
  exact Ev.now _
theorem step_c0 (x : DLimit) (ok : LimOk x) (now : Int) (bare out : List Int) (lo : Nat) (hl : bare.length ≤ 1000000) (hl2 : out.length ≤ 1000000) : ∀ (d i : Nat) (a : Int), i + d = (bare.drop lo).length →
 Ev (fun k => monitor_follower_step.c0 k x.1 x.2.1 x.2.2.1 x.2.2.2.1 x.2.2.2.2.1 x.2.2.2.2.2.1 x.2.2.2.2.2.2.1 x.2.2.2.2.2.2.2 now bare out a ((bare.drop lo).length : Int) i lo) (fin0 x now (((bare.drop lo).drop i).foldl mnI a) bare out, ())
 | 0, i, a, hd => by
  refine Ev.step (fun k => by rw [monitor_follower_step.c0_eq]) (Ev.no (by simp; simp at hd; omega) ?_)
  rw [List.drop_of_length_le (by omega), List.foldl_nil]
  unfold fin0
  simp only [decide_eq_true_eq]
  exact Ev.split (fun h => by rw [if_pos h]; exact Ev.now _) (fun h => by rw [if_neg h]; exact step_c1 x ok now bare out hl2)
 | d + 1, i, a, hd => by
  have hlen : (bare.drop lo).length ≤ 1000000 := by rw [List.length_drop]; omega
  refine Ev.step (fun k => by rw [monitor_follower_step.c0_eq]) (Ev.yes (by rw [decide_eq_true_eq]; omega) (Ev.yes (by rw [Int.toNat_natCast]; omega) ?_))
  rw [Int.toNat_natCast, Int.toNat_natCast, getD_drop, getD_nat 0 _ i (by omega), w64 (by omega) (by omega)]
  have ih := step_c0 x ok now bare out lo hl hl2 d (i + 1) (mnI a (bare.drop lo)[i]) (by omega)
  rw [List.drop_eq_getElem_cons (show i < (bare.drop lo).length by omega), List.foldl_cons]
  exact ih
theorem step_ev (f : Dfollower) (v : Int) (ok : LimOk f.1) (hv : -1000000000 ≤ v ∧ v ≤ 1000000000) (hb : f.2.2.1.length ≤ 100000) (ho : f.2.2.2.length ≤ 100000) : Ev (fun k => monitor_follower_step.f k f v) (stp f v, ()) := by
 obtain ⟨x, now, bare, out⟩ := f
 simp only at ok hb ho
 have c := ok.cnt
 have b := ok.bk
 refine Ev.eq (fun k => by rw [monitor_follower_step.f_eq]) ?_
 simp only [state_ev, Option.bind_some]
 rw [w64 (x := v - x.2.2.2.2.2.2.2) (by omega) (by omega), w64 (x := v + x.2.2.2.2.2.2.2) (by omega) (by omega)]
 refine Ev.yes (by omega) (Ev.yes (by omega) ?_)
 have hlen : (bare ++ [st x v]).length ≤ 1000000 := by rw [List.length_append, List.length_singleton]; omega
 have hlen2 : (out ++ [far x v]).length ≤ 1000000 := by rw [List.length_append, List.length_singleton]; omega
 unfold stp
 simp only
 show Ev _ (if cntOf x ≤ ((bare ++ [st x v]).length : Int) ∧ now < best x (bare ++ [st x v]) then _ else _, ())
 have hf : mxI (st x (v - x.2.2.2.2.2.2.2)) (st x (v + x.2.2.2.2.2.2.2)) = far x v := rfl
 rw [hf]
 generalize bare ++ [st x v] = B at *
 generalize out ++ [far x v] = O at *
 rw [w64 (x := (B.length : Int) - x.2.2.2.2.2.1) (by omega) (by omega)]
 simp only [decide_eq_true_eq]
 unfold best cntOf
 refine Ev.split (fun h => Ev.yes (by omega) ?_) (fun h => ?_)
 ·obtain ⟨lo, hlo⟩ : ∃ lo : Nat, (B.length : Int) - x.2.2.2.2.2.1 = lo := ⟨((B.length : Int) - x.2.2.2.2.2.1).toNat, (Int.toNat_of_nonneg h).symm⟩
  have e : B.length - (x.2.2.2.2.2.1).toNat = lo := by omega
  rw [hlo, Int.toNat_natCast, e]
  have := step_c0 x ok now B O lo hlen hlen2 _ 0 2 (show 0 + (B.drop lo).length = _ by omega)
  rw [List.drop_zero] at this
  unfold fin0 at this
  by_cases hw : now < (B.drop lo).foldl mnI 2
  ·rw [if_pos hw] at this
   rw [if_pos ⟨by omega, hw⟩]; exact this
  ·rw [if_neg hw] at this
   rw [if_neg (fun h => hw h.2)]; exact this
 ·rw [if_neg (by omega)]
  exact step_c1 x ok now B O hlen2
theorem stp_x (f : Dfollower) (v : Int) : (stp f v).1 = f.1 ∧ (stp f v).2.2.1 = f.2.2.1 ++ [st f.1 v] ∧ (stp f v).2.2.2 = f.2.2.2 ++ [far f.1 v] := by
 unfold stp second
 split
 ·exact ⟨rfl, rfl, rfl⟩
 ·split <;> exact ⟨rfl, rfl, rfl⟩
theorem mn_rng : ∀ (l : List Int) (a : Int), (∀ s ∈ l, 0 ≤ s ∧ s ≤ 2) → 0 ≤ a ∧ a ≤ 2 → 0 ≤ l.foldl mnI a ∧ l.foldl mnI a ≤ 2 ∧ l.foldl mxI a ≤ 2 ∧ 0 ≤ l.foldl mxI a
 | [], a, _, h => ⟨h.1, h.2, h.2, h.1⟩
 | s :: l, a, h, ha => by
  have hs := h s (by simp)
  have h1 := mn_rng l (mnI a s) (fun y hy => h y (by simp [hy])) (by unfold mnI; split <;> omega)
  have h2 := mn_rng l (mxI a s) (fun y hy => h y (by simp [hy])) (by unfold mxI; split <;> omega)
  exact ⟨h1.1, h1.2.1, h2.2.2.1, h2.2.2.2⟩
structure FOk (f : Dfollower) : Prop where
 now : 0 ≤ f.2.1 ∧ f.2.1 ≤ 2
 bare : ∀ s ∈ f.2.2.1, 0 ≤ s ∧ s ≤ 2
 out : ∀ s ∈ f.2.2.2, 0 ≤ s ∧ s ≤ 2
theorem far_rng (x : DLimit) (v : Int) : 0 ≤ far x v ∧ far x v ≤ 2 := by
 have h1 := st_rng x (v - bkOf x)
 have h2 := st_rng x (v + bkOf x)
 unfold far mxI
 split <;> omega
theorem stp_ok {f : Dfollower} (h : FOk f) (v : Int) : FOk (stp f v) := by
 obtain ⟨e1, e2, e3⟩ := stp_x f v
 have hb : ∀ s ∈ f.2.2.1 ++ [st f.1 v], 0 ≤ s ∧ s ≤ 2 := fun s hs => by
  rcases List.mem_append.1 hs with hs | hs
  ·exact h.bare s hs
  ·simp at hs; subst hs; exact st_rng _ _
 have ho : ∀ s ∈ f.2.2.2 ++ [far f.1 v], 0 ≤ s ∧ s ≤ 2 := fun s hs => by
  rcases List.mem_append.1 hs with hs | hs
  ·exact h.out s hs
  ·simp at hs; subst hs; exact far_rng _ _
 refine ⟨?_, by rw [e2]; exact hb, by rw [e3]; exact ho⟩
 have r1 := mn_rng ((f.2.2.1 ++ [st f.1 v]).drop ((f.2.2.1 ++ [st f.1 v]).length - (cntOf f.1).toNat)) 2 (fun s hs => hb s (List.mem_of_mem_drop hs)) (by omega)
 have r2 := mn_rng ((f.2.2.2 ++ [far f.1 v]).drop ((f.2.2.2 ++ [far f.1 v]).length - (clrOf f.1).toNat)) 0 (fun s hs => ho s (List.mem_of_mem_drop hs)) (by omega)
 unfold stp second
 split
 ·exact ⟨r1.1, r1.2.1⟩
 ·split
  ·exact ⟨r2.2.2.2, r2.2.2.1⟩
  ·exact h.now

def new (x : DLimit) : Dfollower := (x, (0, ([], [])))
def tr (x : DLimit) (vs : List Int) : Dfollower := vs.foldl stp (new x)
theorem tr_snoc (x : DLimit) (vs : List Int) (v : Int) : tr x (vs ++ [v]) = stp (tr x vs) v := by
 unfold tr; rw [List.foldl_append]; rfl
theorem tr_facts (x : DLimit) : ∀ (n : Nat) (vs : List Int), vs.length = n → (tr x vs).1 = x ∧ (tr x vs).2.2.1 = vs.map (st x) ∧ (tr x vs).2.2.2 = vs.map (far x) ∧ FOk (tr x vs)
 | 0, vs, h => by
  have := List.eq_nil_of_length_eq_zero h
  subst this
  exact ⟨rfl, rfl, rfl, ⟨⟨Int.le_refl _, (by show (0 : Int) ≤ 2; omega)⟩, fun _ h => (by cases h), fun _ h => (by cases h)⟩⟩
 | n + 1, vs, h => by
  rcases List.eq_nil_or_concat vs with rfl | ⟨us, v, rfl⟩
  ·simp at h
  ·simp at h
   obtain ⟨h1, h2, h3, h4⟩ := tr_facts x n us h
   rw [List.concat_eq_append, tr_snoc]
   obtain ⟨e1, e2, e3⟩ := stp_x (tr x us) v
   refine ⟨e1.trans h1, ?_, ?_, stp_ok h4 v⟩
   ·rw [e2, h2, h1, List.map_append]; rfl
   ·rw [e3, h3, h1, List.map_append]; rfl
def nowOf (x : DLimit) (vs : List Int) : Int := (tr x vs).2.1
def vals (p : List UInt8) (s : List DSample) : List Int := (s.filter fun y => decide (y.2.1 = p)).map (·.2.2)
theorem vals_snoc (p : List UInt8) (s : List DSample) (y : DSample) : vals p (s ++ [y]) = vals p s ++ (if y.2.1 = p then [y.2.2] else []) := by
 unfold vals
 rw [List.filter_append, List.map_append]
 congr 1
 by_cases h : y.2.1 = p <;> simp [h]
theorem vals_len (p : List UInt8) (s : List DSample) : (vals p s).length ≤ s.length := by
 unfold vals
 rw [List.length_map]
 exact List.length_filter_le _ _
def limOf (l : List DLimit) (p : List UInt8) : Option DLimit := l.find? fun x => decide (x.1 = p)
end Go.Proofs.Ytodnfnnfjnnhmaa.Pure

-- YtodnfnnfjnnhmaaQ3
set_option linter.unusedVariables false
set_option linter.unusedSimpArgs false
namespace Go.Proofs.Ytodnfnnfjnnhmaa.Pure
open Go Go.Proofs.Ytodnfnnfjnnhmaa.A

abbrev FMap := List (List UInt8 × Option Dfollower)
def bx (M : FMap) (p : List UInt8) : Option Dfollower := mapGet .str (.ptr Yfollower) p M none
theorem eqS (a b : List UInt8) : eqV .str a b = decide (a = b) := rfl
theorem bx_put (p q : List UInt8) (v : Option Dfollower) : ∀ M : FMap, bx (mapPut .str (.ptr Yfollower) q v M) p = if p = q then v else bx M p
 | [] => by
  unfold bx
  simp only [mapPut, mapGet, eqS, decide_eq_true_eq]
  by_cases h : q = p
  ·subst h; simp
  ·have : ¬ p = q := fun e => h e.symm
   rw [if_neg h, if_neg this]
 | e :: M => by
  have ih := bx_put p q v M
  unfold bx at ih ⊢
  simp only [mapPut, eqS, decide_eq_true_eq]
  by_cases h : e.1 = q
  ·rw [if_pos h]
   simp only [mapGet, eqS, decide_eq_true_eq]
   by_cases h2 : q = p
   ·subst h2; simp
   ·have : ¬ p = q := fun e => h2 e.symm
    rw [if_neg h2, if_neg this, if_neg (by rw [h]; exact h2)]
  ·rw [if_neg h]
   simp only [mapGet, eqS, decide_eq_true_eq]
   by_cases h2 : e.1 = p
   ·have : ¬ p = q := fun e2 => h (h2.trans e2)
    rw [if_pos h2, if_pos h2, if_neg this]
   ·rw [if_neg h2, if_neg h2]; exact ih
theorem has_bx (M : FMap) (p : List UInt8) : hasBox .str Yfollower p M = (bx M p).isSome := rfl
theorem box_bx {M : FMap} {p : List UInt8} {f : Dfollower} (h : bx M p = some f) : boxOf .str Yfollower p M = f := by
 have h' : mapGet .str (.ptr Yfollower) p M none = some f := h
 unfold boxOf
 rw [h']; rfl

theorem lims_sorted {l : List DLimit} (h : LimsOk l) : l.Pairwise fun a b => lessS a.1 b.1 = true :=
 (chain_pair (R := fun a b : DLimit => lessS a.1 b.1 = true) (fun _ _ _ h1 h2 => less_trans h1 h2) (Ty.dflt YLimit) l).1 fun j hj hj0 => (h.2 j hj).2 hj0
theorem lims_all {l : List DLimit} (h : LimsOk l) : ∀ x ∈ l, LimOk x := fun x hx => by
 obtain ⟨j, hj, rfl⟩ := List.getElem_of_mem hx
 have := (h.2 j hj).1
 rwa [getD_nat _ _ j hj] at this
theorem limOf_some {l : List DLimit} {p : List UInt8} {x : DLimit} (h : limOf l p = some x) : x ∈ l ∧ x.1 = p :=
 ⟨List.mem_of_find?_eq_some h, by simpa using List.find?_some h⟩
theorem followers_ev (l : List DLimit) (h : LimsOk l) : ∃ M, Ev (fun k => monitor_followers.f k l) (M, ()) ∧ ∀ p, bx M p = (limOf l p).map new := by
 have hl := h.1
 have srt := lims_sorted h
 have g := Ev.rngR (σ := FMap) (Ty.dflt YLimit) l (by omega) (g := fun k M i => monitor_followers.c0 k M l (l.length : Int) i) (fun k M i => monitor_followers.c0_eq _ _ _ _ _)
  (fun i M => ∀ p, bx M p = (limOf (l.take i) p).map new) (fun r => ∀ p, bx r.1 p = (limOf l p).map new) (fun M hM => by
   rw [List.take_length] at hM
   exact ⟨(M, ()), Ev.now _, hM⟩) (fun i x M hi hx hget? hget hw hM next => by
   simp only [Int.toNat_natCast, hget, hw]
   refine next _ fun p => ?_
   have ht : l.take (i + 1) = l.take i ++ [x] := by rw [List.take_add_one, hget?]; rfl
   have hd : l.drop i = x :: l.drop (i + 1) := by
    rw [List.drop_eq_getElem_cons hi]
    congr 1
    rw [List.getElem?_eq_getElem hi] at hget?
    exact Option.some.inj hget?
   have srt2 : (l.take i ++ x :: l.drop (i + 1)).Pairwise fun a b => lessS a.1 b.1 = true := by rw [← hd, List.take_append_drop]; exact srt
   rw [List.pairwise_append] at srt2
   rw [bx_put, hM p, ht]
   unfold limOf
   rw [List.find?_append]
   by_cases hp : p = x.1
   ·subst hp
    rw [if_pos rfl]
    have none_ : (l.take i).find? (fun y => decide (y.1 = x.1)) = none := by
     rw [List.find?_eq_none]
     intro y hy
     have := less_ne (srt2.2.2 y hy x (by simp))
     simpa using this
    rw [none_]
    simp [new]
   ·rw [if_neg hp]
    have : ¬ x.1 = p := fun e => hp e.symm
    simp [this]) 0 [] (by omega) (fun p => by simp [limOf, bx, mapGet])
 obtain ⟨⟨M, u⟩, h1, h2⟩ := g
 have h1 : Ev (fun k => monitor_followers.c0 k [] l (l.length : Int) 0) (M, u) := h1
 exact ⟨M, Ev.eq (fun k => by rw [monitor_followers.f_eq]) h1, h2⟩

def wordOf (n : Int) : List UInt8 := if n = 0 then [103, 111, 111, 100] else if n = 1 then [119, 97, 114, 110] else [97, 108, 97, 114, 109]
theorem word_ev (k : Nat) (n : Int) : monitor_word.f k n = some (wordOf n, ()) := by
 rw [monitor_word.f_eq]
 unfold wordOf
 simp only [decide_eq_true_eq]
 split
 ·rfl
 ·split <;> rfl
theorem wordOf_len (n : Int) : (wordOf n).length ≤ 5 := by
 unfold wordOf
 split
 ·decide
 ·split <;> decide
def one (l : List DLimit) (pre : List DSample) (y : DSample) : List DEvent := match limOf l y.2.1 with
 | none => []
 | some x => if nowOf x (vals x.1 (pre ++ [y])) = nowOf x (vals x.1 pre) then [] else [(y.1, (y.2.1 ++ [45]) ++ wordOf (nowOf x (vals x.1 (pre ++ [y]))))]
def evP (l : List DLimit) : List DSample → List DSample → List DEvent
 | _, [] => []
 | pre, y :: r => one l pre y ++ evP l (pre ++ [y]) r
theorem one_len (l : List DLimit) (pre : List DSample) (y : DSample) : (one l pre y).length ≤ 1 := by
 unfold one
 split
 ·decide
 ·split <;> simp
theorem evP_len (l : List DLimit) : ∀ (r pre : List DSample), (evP l pre r).length ≤ r.length
 | [], _ => by simp [evP]
 | y :: r, pre => by
  have h1 := one_len l pre y
  have h2 := evP_len l r (pre ++ [y])
  simp only [evP, List.length_append, List.length_cons]
  omega
def evs (l : List DLimit) (s : List DSample) : List DEvent := evP l [] s
theorem sam_name {y : DSample} (h : SamOk y) (hn : y.2.1.length ≤ 140737488351232) : y.2.1.length ≤ 40 := (name_ev y.2.1 hn).2 h.nm
theorem follow_ev (l : List DLimit) (s : List DSample) (hn : ∀ x ∈ l, x.1.length ≤ 140737488351232) (hs : ∀ x ∈ s, x.2.1.length ≤ 140737488351232) :
 ∃ c : Int, Ev (fun k => monitor_Follow.f k l s) (if c = 0 then (evs l s, 0, ()) else ([], c, ())) ∧ (c = 0 ↔ LimsOk l ∧ SamsOk s) := by
 obtain ⟨c1, a1, a2⟩ := limits_ev l hn
 obtain ⟨c2, b1, b2⟩ := samples_ev s hs
 refine ⟨firstN [c1, c2], ?_, by rw [firstN_zero]; simp [a2, b2]⟩
 refine Ev.eq (fun k => by rw [monitor_Follow.f_eq]) (Ev.bind a1 (Ev.bind b1 (Ev.bind (first_ev [c1, c2] (by simp)) ?_)))
 simp only [Bool.not_eq_true', decide_eq_false_iff_not]
 refine Ev.split (fun h => by rw [if_neg h]; exact Ev.now _) (fun h => ?_)
 have h : firstN [c1, c2] = 0 := Classical.byContradiction h
 rw [if_pos h]
 have hz := firstN_zero.1 h
 have hL : LimsOk l := a2.1 (hz c1 (by simp))
 have hS : SamsOk s := b2.1 (hz c2 (by simp))
 obtain ⟨M0, f1, f2⟩ := followers_ev l hL
 refine Ev.bind f1 ?_
 have hsl := hS.1
 have g := Ev.rng (σ := FMap × List DEvent) (Ty.dflt YSample) s (by omega) (g := fun k S i => monitor_Follow.c0 k S.1 S.2 s (s.length : Int) i) (fun k S i => monitor_Follow.c0_eq _ _ _ _ _ _)
  (fun i S => (∀ p, bx S.1 p = (limOf l p).map fun x => tr x (vals p (s.take i))) ∧ S.2.length ≤ i) (fun r i S => (S.2 ++ evP l (s.take i) r, 0, ())) (fun S hS => by
   rw [evP, List.append_nil]; exact Ev.now _) (fun i y ys S hi hy hd hget hw hS' next => by
   obtain ⟨q1, q2⟩ := hS'
   simp only [Int.toNat_natCast, hget, hw]
   have ht : s.take (i + 1) = s.take i ++ [y] := by
    rw [List.take_add_one]
    have : s[i]? = some y := by
     have := congrArg (fun l => l[0]?) hd
     simpa using this
    rw [this]; rfl
   have sok := hS.2.1 y hy
   have nl := sam_name sok (hs y hy)
   rw [has_bx, q1 y.2.1]
   unfold evP
   cases hx : limOf l y.2.1 with
   | none =>
    refine Ev.no (by simp) (Ev.cast ?_ (next S ⟨fun p => ?_, by omega⟩))
    ·unfold one
     rw [hx, ht]; rfl
    ·rw [q1 p, ht, vals_snoc]
     by_cases hp : y.2.1 = p
     ·rw [← hp, hx]; rfl
     ·rw [if_neg hp, List.append_nil]
   | some x =>
    obtain ⟨xm, xn⟩ := limOf_some hx
    have hb : bx S.1 y.2.1 = some (tr x (vals y.2.1 (s.take i))) := by rw [q1, hx]; rfl
    obtain ⟨t1, t2, t3, t4⟩ := tr_facts x _ (vals y.2.1 (s.take i)) rfl
    have vl := vals_len y.2.1 (s.take i)
    rw [List.length_take] at vl
    refine Ev.yes (by simp) ?_
    rw [box_bx hb]
    refine Ev.bind (step_ev _ _ (by rw [t1]; exact lims_all hL x xm) sok.v (by rw [t2, List.length_map]; omega) (by rw [t3, List.length_map]; omega)) ?_
    simp only
    have hb2 : bx (mapPut .str (.ptr Yfollower) y.2.1 (some (stp (tr x (vals y.2.1 (s.take i))) y.2.2)) S.1) y.2.1 = some (stp (tr x (vals y.2.1 (s.take i))) y.2.2) := by rw [bx_put, if_pos rfl]
    rw [box_bx hb2]
    have hv : vals y.2.1 (s.take i ++ [y]) = vals y.2.1 (s.take i) ++ [y.2.2] := by rw [vals_snoc, if_pos rfl]
    have hinv : ∀ p, bx (mapPut .str (.ptr Yfollower) y.2.1 (some (stp (tr x (vals y.2.1 (s.take i))) y.2.2)) S.1) p = (limOf l p).map fun x => tr x (vals p (s.take (i + 1))) := fun p => by
     rw [bx_put]
     by_cases hp : p = y.2.1
     ·subst hp
      rw [if_pos rfl, hx, ht, hv]
      simp only [Option.map_some]
      rw [tr_snoc]
     ·rw [if_neg hp, q1 p, ht, vals_snoc, if_neg (fun e => hp e.symm), List.append_nil]
    have hone : one l (s.take i) y = if (stp (tr x (vals y.2.1 (s.take i))) y.2.2).2.1 = (tr x (vals y.2.1 (s.take i))).2.1 then [] else [(y.1, (y.2.1 ++ [45]) ++ wordOf (stp (tr x (vals y.2.1 (s.take i))) y.2.2).2.1)] := by
     unfold one
     rw [hx]
     have hn2 : nowOf x (vals y.2.1 (s.take i) ++ [y.2.2]) = (stp (tr x (vals y.2.1 (s.take i))) y.2.2).2.1 := by unfold nowOf; rw [tr_snoc]
     simp only [xn, hv, hn2]
     rfl
    simp only [Bool.not_eq_true', decide_eq_false_iff_not, word_ev, Option.bind_some]
    refine Ev.split (fun hne => ?_) (fun he => ?_)
    ·rw [if_neg hne] at hone
     have wl := wordOf_len (stp (tr x (vals y.2.1 (s.take i))) y.2.2).2.1
     refine Ev.yes (by omega) (Ev.yes (by rw [List.length_append, List.length_singleton]; omega) (Ev.yes (Nat.le_trans (Nat.succ_le_succ q2) (by omega)) (Ev.cast ?_ (next (_, _) ⟨hinv, by rw [List.length_append, List.length_singleton]; exact Nat.succ_le_succ q2⟩))))
     rw [hone, ht, List.append_assoc]
    ·have he : (stp (tr x (vals y.2.1 (s.take i))) y.2.2).2.1 = (tr x (vals y.2.1 (s.take i))).2.1 := Classical.byContradiction he
     rw [if_pos he] at hone
     refine Ev.cast ?_ (next (_, _) ⟨hinv, Nat.le_succ_of_le q2⟩)
     rw [hone, ht]; rfl) 0 (M0, []) (by omega) ⟨fun p => by rw [f2 p]; rfl, by simp⟩
 exact g

end Go.Proofs.Ytodnfnnfjnnhmaa.Pure

-- YtodnfnnfjnnhmaaQ4
set_option linter.unusedVariables false
set_option linter.unusedSimpArgs false
namespace Go.Proofs.Ytodnfnnfjnnhmaa.Pure
open Go Go.Proofs.Ytodnfnnfjnnhmaa.A
def nm (p : List UInt8) (n : Int) : List UInt8 := (p ++ [45]) ++ wordOf n
end Go.Proofs.Ytodnfnnfjnnhmaa.Pure

-- YtodnfnnfjnnhmaaQ5
set_option linter.unusedVariables false
set_option linter.unusedSimpArgs false
namespace Go.Proofs.Ytodnfnnfjnnhmaa.Pure
open Go Go.Proofs.Ytodnfnnfjnnhmaa.A
def gdP (c : Nat) (i : Nat) : Prop := (97 ≤ c ∧ c ≤ 122) ∨ (i ≠ 0 ∧ (c = 45 ∨ c = 95 ∨ (48 ≤ c ∧ c ≤ 57)))
instance (c i : Nat) : Decidable (gdP c i) := by unfold gdP; infer_instance
def inV (v : Int) : Prop := -1000000000 ≤ v ∧ v ≤ 1000000000
instance (v : Int) : Decidable (inV v) := by unfold inV; infer_instance
end Go.Proofs.Ytodnfnnfjnnhmaa.Pure

-- YtodnfnnfjnnhmaaQ6
set_option linter.unusedVariables false
set_option linter.unusedSimpArgs false
namespace Go.Proofs.Ytodnfnnfjnnhmaa.Pure
open Go Go.Proofs.Ytodnfnnfjnnhmaa.A
instance (a b : DSample) : Decidable (bef a b) := by unfold bef; infer_instance
end Go.Proofs.Ytodnfnnfjnnhmaa.Pure

-- YtodnfnnfjnnhmaaR1
set_option linter.unusedVariables false
set_option linter.unusedSimpArgs false
namespace Go.Proofs.Ytodnfnnfjnnhmaa.Pure
open Go Go.Proofs.Ytodnfnnfjnnhmaa.A
theorem Ev.agreeL {α β : Type} {l : List β} (hl : l ≠ []) {K : Nat → β → List β → Option α} {r : α} (h : ∀ (i : Nat) (x : β), l[i]? = Option.some x → Ev (fun k => K k x (l.eraseIdx i)) r) : Ev (fun k => Go.Proofs.Ytodnfnnfjnnhmaa.A.agreeL l (K k)) r := by
 have bound : ∀ b : Nat, ∃ N, ∀ i, i < b → ∀ x, l[i]? = Option.some x → ∀ n, N ≤ n → K n x (l.eraseIdx i) = Option.some r := by
  intro b
  induction b with
  | zero => exact ⟨0, fun i hi => by omega⟩
  | succ b ih =>
   obtain ⟨N, hN⟩ := ih
   cases hb : l[b]? with
   | none =>
    refine ⟨N, fun i hi x hx n hn => ?_⟩
    by_cases e : i = b
    ·subst e; rw [hb] at hx; cases hx
    ·exact hN i (by omega) x hx n hn
   | some y =>
    obtain ⟨M, hM⟩ := h b y hb
    refine ⟨max N M, fun i hi x hx n hn => ?_⟩
    by_cases e : i = b
    ·subst e; rw [hb] at hx; cases hx; exact hM n (by omega)
    ·exact hN i (by omega) x hx n (by omega)
 obtain ⟨N, hN⟩ := bound l.length
 refine ⟨N, fun n hn => ?_⟩
 have all : ∀ (i : Nat) (x : β), l[i]? = Option.some x → K n x (l.eraseIdx i) = Option.some r := fun i x hx => hN i (List.getElem?_eq_some_iff.1 hx).1 x hx n hn
 show Go.Proofs.Ytodnfnnfjnnhmaa.A.agreeL l (K n) = _
 unfold Go.Proofs.Ytodnfnnfjnnhmaa.A.agreeL
 have e : ∃ r, ∀ (i : Nat) (x : β), l[i]? = Option.some x → K n x (l.eraseIdx i) = Option.some r := ⟨r, all⟩
 rw [dif_pos e]
 obtain ⟨x, xs, rfl⟩ := List.exists_cons_of_ne_nil hl
 have h1 := Classical.choose_spec e 0 x rfl
 rw [all 0 x rfl] at h1
 exact h1.symm

theorem sorted_eq : ∀ {a b : List Int}, a.Pairwise (· ≤ ·) → b.Pairwise (· ≤ ·) → a.Perm b → a = b
 | [], b, _, _, h => by have := h.length_eq; cases b with | nil => rfl | cons _ _ => simp at this
 | x :: a, [], _, _, h => by have := h.length_eq; simp at this
 | x :: a, y :: b, h1, h2, h => by
  rw [List.pairwise_cons] at h1 h2
  have xy : x = y := by
   have m1 : x ∈ y :: b := h.subset (by simp)
   have m2 : y ∈ x :: a := h.symm.subset (by simp)
   have : y ≤ x := by rcases List.mem_cons.1 m1 with e | e; (omega); exact h2.1 x e
   have : x ≤ y := by rcases List.mem_cons.1 m2 with e | e; (omega); exact h1.1 y e
   omega
  subst xy
  rw [sorted_eq h1.2 h2.2 (List.perm_cons x |>.1 h)]
theorem sortI_ok (a : List Int) : (sortI a).Perm a ∧ (sortI a).Pairwise (· ≤ ·) := by
 refine ⟨List.mergeSort_perm _ _, ?_⟩
 have := List.pairwise_mergeSort (le := fun x y : Int => decide (x ≤ y)) (fun a b c h1 h2 => by simp at *; omega) (fun a b => by simp; omega) a
 exact this.imp fun h => by simpa using h
theorem sortI_perm {a b : List Int} (h : a.Perm b) : sortI a = sortI b :=
 sorted_eq (sortI_ok a).2 (sortI_ok b).2 ((sortI_ok a).1.trans (h.trans (sortI_ok b).1.symm))
theorem perm_erase {α : Type} : ∀ {l : List α} {i : Nat} {x : α}, l[i]? = some x → l.Perm (x :: l.eraseIdx i)
 | [], _, _, h => by simp at h
 | y :: l, 0, x, h => by simp at h; subst h; exact List.Perm.refl _
 | y :: l, i + 1, x, h => by
  simp at h
  rw [List.eraseIdx_cons_succ]
  exact ((perm_erase h).cons y).trans (List.Perm.swap x y _)

abbrev mg (k : Int) (m : List (Int × Int)) : Int := mapGet (.int .i64) (.int .i64) k m (0 : Int)
abbrev mp (k v : Int) (m : List (Int × Int)) : List (Int × Int) := mapPut (.int .i64) (.int .i64) k v m
theorem mg_mp (k t v : Int) : ∀ m : List (Int × Int), mg k (mp t v m) = if k = t then v else mg k m
 | [] => by
  by_cases h : k = t
  ·subst h; simp [mg, mp, mapPut, mapGet, eqV]
  ·simp [mg, mp, mapPut, mapGet, eqV, h, Ne.symm h]
 | (a, b) :: m => by
  have ih := mg_mp k t v m
  by_cases h : a = t
  ·subst h
   by_cases h2 : k = a
   ·subst h2; simp [mg, mp, mapPut, mapGet, eqV]
   ·simp [mg, mp, mapPut, mapGet, eqV, h2, Ne.symm h2]
  ·by_cases h2 : a = k
   ·subst h2
    simp [mg, mp, mapPut, mapGet, eqV, h]
   ·simp only [mg, mp, mapPut, mapGet, eqV, h, h2, decide_false, Bool.false_eq_true, if_false] at ih ⊢
    exact ih
theorem keys_mp (t v : Int) : ∀ m : List (Int × Int), (mp t v m).map (·.1) = if t ∈ m.map (·.1) then m.map (·.1) else m.map (·.1) ++ [t]
 | [] => by simp [mp, mapPut]
 | (a, b) :: m => by
  have ih := keys_mp t v m
  by_cases h : a = t
  ·subst h; simp [mp, mapPut, eqV]
  ·simp only [mp, mapPut, eqV, h, decide_false, Bool.false_eq_true, if_false, List.map_cons, List.mem_cons, Ne.symm h, false_or] at ih ⊢
   rw [ih]
   split <;> simp
def evSum (k : Int) : List (Int × Int) → Int
 | [] => 0
 | e :: E => (if e.1 = k then e.2 else 0) + evSum k E
theorem evSum_append (k : Int) : ∀ (E F : List (Int × Int)), evSum k (E ++ F) = evSum k E + evSum k F
 | [], F => by simp [evSum]
 | e :: E, F => by simp only [List.cons_append, evSum, evSum_append k E F]; omega
structure MapIs (m : List (Int × Int)) (E : List (Int × Int)) : Prop where
 get : ∀ k, mg k m = evSum k E
 nd : (m.map (·.1)).Nodup
 ks : ∀ k, k ∈ m.map (·.1) ↔ k ∈ E.map (·.1)
theorem MapIs.put {m E : List (Int × Int)} (h : MapIs m E) (t w : Int) : MapIs (mp t (mg t m + w) m) (E ++ [(t, w)]) := by
 refine ⟨fun k => ?_, ?_, fun k => ?_⟩
 ·rw [mg_mp, evSum_append, h.get t]
  by_cases e : k = t
  ·subst e; simp [evSum]
  ·rw [if_neg e, h.get k]; simp [evSum, Ne.symm e]
 ·rw [keys_mp]
  split
  ·exact h.nd
  ·rename_i hn
   rw [List.nodup_append]
   exact ⟨h.nd, by simp, fun a ha b hb e => by simp at hb; subst hb; subst e; exact hn ha⟩
 ·rw [keys_mp, List.map_append, List.mem_append, ← h.ks k]
  split
  ·rename_i ht
   constructor
   ·exact .inl
   ·rintro (h1 | h1)
    ·exact h1
    ·simp at h1; subst h1; exact ht
  ·rw [List.mem_append]; simp
theorem u64_in {x : Int} (h : 0 ≤ x) (h' : x < 18446744073709551616) : IntKind.wrap .u64 x = x := by
 have e1 : (2 : Int) ^ 64 = 18446744073709551616 := rfl
 simp only [IntKind.wrap, IntKind.bits, IntKind.signed, e1, Bool.false_and]
 simp
 omega
theorem shr_half (x : Int) : shrI .u64 x 1 = x / 2 := by
 unfold shrI
 exact Int.fdiv_eq_ediv_of_nonneg _ (by decide)

theorem nodup_len {α : Type} [DecidableEq α] : ∀ {l m : List α}, l.Nodup → (∀ x ∈ l, x ∈ m) → l.length ≤ m.length
 | [], m, _, _ => by simp
 | x :: l, m, h, hs => by
  rw [List.nodup_cons] at h
  have hx := hs x (by simp)
  have := nodup_len (l := l) (m := m.erase x) h.2 fun y hy => (List.mem_erase_of_ne (by rintro rfl; exact h.1 hy)).2 (hs y (by simp [hy]))
  rw [List.length_erase_of_mem hx] at this
  have := List.length_pos_of_mem hx
  simp only [List.length_cons]; omega


theorem take_snoc {α : Type} {l : List α} {k : Nat} {x : α} (h : l[k]? = some x) : l.take (k + 1) = l.take k ++ [x] := by rw [List.take_add_one, h]; rfl
theorem cmpS_zero {a b : List UInt8} (h : cmpS a b = 0) : a = b := by
 unfold cmpS at h
 split at h
 ·cases h
 ·split at h
  ·cases h
  ·rename_i h1 h2
   apply Classical.byContradiction
   intro hne
   exact h2 (less_tri h1 hne)
theorem search_ex (l : List DUse) (hl : l.length ≤ 1000000) (t : List UInt8) : ∀ (d i j : Nat), j = i + d → j ≤ l.length →
 ∃ (p : Nat) (b : Bool), (b = true → p < l.length ∧ (l.getD p (Ty.dflt YUse)).1 = t) ∧ Ev (fun k => slices_BinarySearchFunc_string.c0 k l t (l.length : Int) i j) ((p : Int), b, ()) := by
 intro d
 induction d using Nat.strongRecOn with
 | _ d ih =>
  intro i j hj hjl
  rcases Nat.eq_zero_or_pos d with h0 | h0
  ·subst h0
   have hij : j = i := by omega
   subst hij
   by_cases h1 : (j : Int) < (l.length : Int)
   ·refine ⟨j, decide (cmpS (l.getD j (Ty.dflt YUse)).1 t = 0), fun h => ⟨by omega, cmpS_zero (of_decide_eq_true h)⟩, Ev.step (fun k => by rw [slices_BinarySearchFunc_string.c0_eq]) ?_⟩
    simp only [decide_eq_true_eq, power_load_1.f_eq, Option.bind_some, Int.toNat_natCast]
    exact Ev.no (by omega) (Ev.yes h1 (Ev.yes (by omega) (Ev.now _)))
   ·refine ⟨j, false, fun h => (by cases h), Ev.step (fun k => by rw [slices_BinarySearchFunc_string.c0_eq]) ?_⟩
    simp only [decide_eq_true_eq]
    exact Ev.no (by omega) (Ev.no h1 (Ev.now _))
  ·have hm : ∃ m : Nat, IntKind.wrap .i64 (shrI .u64 (IntKind.wrap .u64 (IntKind.wrap .i64 ((i : Int) + (j : Int)))) 1) = (m : Int) ∧ m = (i + j) / 2 := by
    refine ⟨(i + j) / 2, ?_, rfl⟩
    rw [w64 (x := (i : Int) + (j : Int)) (by omega) (by omega), u64_in (by omega) (by omega), shr_half, w64 (by omega) (by omega)]
    omega
   obtain ⟨m, hm, hm2⟩ := hm
   have hmi : i ≤ m ∧ m < j := by omega
   by_cases h1 : cmpS (l.getD m (Ty.dflt YUse)).1 t < 0
   ·obtain ⟨p, b, hb, hev⟩ := ih (j - (m + 1)) (by omega) (m + 1) j (by omega) hjl
    refine ⟨p, b, hb, Ev.step (fun k => by rw [slices_BinarySearchFunc_string.c0_eq]) ?_⟩
    rw [hm, w64 (x := (m : Int) + 1) (by omega) (by omega)]
    simp only [decide_eq_true_eq, power_load_1.f_eq, Option.bind_some, Int.toNat_natCast]
    exact Ev.yes (by omega) (Ev.yes (by omega) (Ev.yes h1 hev))
   ·obtain ⟨p, b, hb, hev⟩ := ih (m - i) (by omega) i m (by omega) (by omega)
    refine ⟨p, b, hb, Ev.step (fun k => by rw [slices_BinarySearchFunc_string.c0_eq]) ?_⟩
    rw [hm]
    simp only [decide_eq_true_eq, power_load_1.f_eq, Option.bind_some, Int.toNat_natCast]
    exact Ev.yes (by omega) (Ev.yes (by omega) (Ev.no h1 hev))
theorem load_ex (l : List DUse) (hl : l.length ≤ 1000000) (t : List UInt8) : ∃ r : DUse × Bool, Ev (fun k => power_load.f k l t) (r.1, r.2, ()) ∧ (r.2 = true → r.1 ∈ l ∧ r.1.1 = t) ∧ (r.2 = false → r.1.2.1 = 0) := by
 obtain ⟨p, b, hb, hev⟩ := search_ex l hl t l.length 0 l.length (by omega) (Nat.le_refl _)
 have hs : Ev (fun k => slices_BinarySearchFunc_string.f k l t ()) ((p : Int), b, ()) := Ev.eq (fun k => slices_BinarySearchFunc_string.f_eq _ _ _ _) hev
 cases b with
 | false => exact ⟨(([], (0, 0)), false), Ev.eq (fun k => power_load.f_eq _ _ _) (Ev.bind hs (Ev.yes rfl (Ev.now _))), fun h => (by cases h), fun _ => rfl⟩
 | true =>
  obtain ⟨h1, h2⟩ := hb rfl
  refine ⟨(l.getD p (Ty.dflt YUse), true), Ev.eq (fun k => power_load.f_eq _ _ _) (Ev.bind hs (Ev.no (by simp) (Ev.yes (by omega) ?_))), fun _ => ⟨getD_mem h1, h2⟩, fun h => by cases h⟩
  simp only [Int.toNat_natCast]
  exact Ev.now _
theorem load_fn (l : List DUse) (hl : l.length ≤ 1000000) : ∃ F : List UInt8 → DUse × Bool, ∀ t, Ev (fun k => power_load.f k l t) ((F t).1, (F t).2, ()) ∧ ((F t).2 = true → (F t).1 ∈ l ∧ (F t).1.1 = t) ∧ ((F t).2 = false → (F t).1.2.1 = 0) :=
 ⟨fun t => Classical.choose (load_ex l hl t), fun t => Classical.choose_spec (load_ex l hl t)⟩
end Go.Proofs.Ytodnfnnfjnnhmaa.Pure

-- YtodnfnnfjnnhmaaR2
set_option linter.unusedVariables false
set_option linter.unusedSimpArgs false
namespace Go.Proofs.Ytodnfnnfjnnhmaa.Pure
open Go Go.Proofs.Ytodnfnnfjnnhmaa.A

structure CellOk (c : DCell) : Prop where
 room : 1 ≤ c.1 ∧ c.1 ≤ 1000000000000
 level : 0 ≤ c.2.1 ∧ c.2.1 ≤ c.1
 sun : 0 ≤ c.2.2.1 ∧ c.2.2.1 ≤ 100000
 base : 0 ≤ c.2.2.2.1 ∧ c.2.2.2.1 ≤ 100000
 floor : 0 ≤ c.2.2.2.2 ∧ c.2.2.2.2 ≤ c.1
theorem cell_ev (c : DCell) : ∃ f : Int, Ev (fun k => power_CheckCell.f k c) (f, ()) ∧ (f = 0 → CellOk c) := by
 by_cases h1 : 1 ≤ c.1 ∧ c.1 ≤ 1000000000000
 case neg => exact ⟨1, Ev.eq (fun k => power_CheckCell.f_eq _ _) (by simp only [in_ev, Option.bind_some]; exact Ev.yes (by rw [decide_eq_false h1]; rfl) (Ev.now _)), fun h => by cases h⟩
 by_cases h2 : 0 ≤ c.2.1 ∧ c.2.1 ≤ c.1
 case neg => exact ⟨1, Ev.eq (fun k => power_CheckCell.f_eq _ _) (by simp only [in_ev, Option.bind_some]; exact Ev.no (by rw [decide_eq_true h1]; simp) (Ev.yes (by rw [decide_eq_false h2]; rfl) (Ev.now _))), fun h => by cases h⟩
 by_cases h3 : 0 ≤ c.2.2.1 ∧ c.2.2.1 ≤ 100000
 case neg => exact ⟨1, Ev.eq (fun k => power_CheckCell.f_eq _ _) (by simp only [in_ev, Option.bind_some]; exact Ev.no (by rw [decide_eq_true h1]; simp) (Ev.no (by rw [decide_eq_true h2]; simp) (Ev.yes (by rw [decide_eq_false h3]; rfl) (Ev.now _)))), fun h => by cases h⟩
 by_cases h4 : 0 ≤ c.2.2.2.1 ∧ c.2.2.2.1 ≤ 100000
 case neg => exact ⟨1, Ev.eq (fun k => power_CheckCell.f_eq _ _) (by simp only [in_ev, Option.bind_some]; exact Ev.no (by rw [decide_eq_true h1]; simp) (Ev.no (by rw [decide_eq_true h2]; simp) (Ev.no (by rw [decide_eq_true h3]; simp) (Ev.yes (by rw [decide_eq_false h4]; rfl) (Ev.now _))))), fun h => by cases h⟩
 by_cases h5 : 0 ≤ c.2.2.2.2 ∧ c.2.2.2.2 ≤ c.1
 case neg => exact ⟨1, Ev.eq (fun k => power_CheckCell.f_eq _ _) (by simp only [in_ev, Option.bind_some]; exact Ev.no (by rw [decide_eq_true h1]; simp) (Ev.no (by rw [decide_eq_true h2]; simp) (Ev.no (by rw [decide_eq_true h3]; simp) (Ev.no (by rw [decide_eq_true h4]; simp) (Ev.yes (by rw [decide_eq_false h5]; rfl) (Ev.now _)))))), fun h => by cases h⟩
 exact ⟨0, Ev.eq (fun k => power_CheckCell.f_eq _ _) (by simp only [in_ev, Option.bind_some]; exact Ev.no (by rw [decide_eq_true h1]; simp) (Ev.no (by rw [decide_eq_true h2]; simp) (Ev.no (by rw [decide_eq_true h3]; simp) (Ev.no (by rw [decide_eq_true h4]; simp) (Ev.no (by rw [decide_eq_true h5]; simp) (Ev.now _)))))), fun _ => ⟨h1, h2, h3, h4, h5⟩⟩
def SpOk (a b : Int) : Prop := 0 ≤ a ∧ a < b ∧ b ≤ 1000000000000
theorem span_ev (a b : Int) : ∃ f : Int, (∀ k, power_span.f k a b = some (f, ())) ∧ (f = 0 ↔ SpOk a b) := by
 unfold SpOk
 by_cases h1 : 0 ≤ a ∧ a ≤ 1000000000000
 case neg => exact ⟨1, fun k => by rw [power_span.f_eq, in_ev, decide_eq_false h1]; rfl, by omega⟩
 by_cases h2 : 0 ≤ b ∧ b ≤ 1000000000000
 case neg => exact ⟨1, fun k => by rw [power_span.f_eq, in_ev, in_ev, decide_eq_true h1, decide_eq_false h2]; rfl, by omega⟩
 by_cases h3 : b ≤ a
 ·exact ⟨13, fun k => by rw [power_span.f_eq, in_ev, in_ev, decide_eq_true h1, decide_eq_true h2]; simp [h3], by omega⟩
 ·exact ⟨0, fun k => by rw [power_span.f_eq, in_ev, in_ev, decide_eq_true h1, decide_eq_true h2]; simp [h3], by omega⟩
def SunOk (s : List DLevel) : Prop := s.length ≤ 500 ∧ (∀ x ∈ s, SpOk x.1 x.2) ∧ s.Pairwise fun a b => a.2 < b.1
theorem pair_step {s : List DLevel} (h1 : ∀ x ∈ s, SpOk x.1 x.2) (h2 : ∀ j, j < s.length → 0 < j → (s.getD (j - 1) (Ty.dflt YLevel)).2 < (s.getD j (Ty.dflt YLevel)).1) : s.Pairwise fun a b => a.2 < b.1 := by
 have h3 : s.Pairwise fun a b => a.2 < b.1 ∧ a.1 < a.2 ∧ b.1 < b.2 := (chain_pair (R := fun a b : DLevel => a.2 < b.1 ∧ a.1 < a.2 ∧ b.1 < b.2) (fun a b c k1 k2 => ⟨by omega, by omega, by omega⟩) (Ty.dflt YLevel) s).1 fun j hj hj0 => by
  have a := h1 _ (getD_mem (z := Ty.dflt YLevel) hj)
  have b := h1 _ (getD_mem (z := Ty.dflt YLevel) (show j - 1 < s.length by omega))
  unfold SpOk at a b
  exact ⟨h2 j hj hj0, b.2.1, a.2.1⟩
 exact h3.imp fun h => h.1
theorem sun_ev (s : List DLevel) : ∃ f : Int, Ev (fun k => power_CheckSun.f k s) (f, ()) ∧ (f = 0 → SunOk s) := by
 by_cases h0 : 500 < (s.length : Int)
 ·exact ⟨2, Ev.eq (fun k => power_CheckSun.f_eq _ _) (Ev.yes (by simpa using h0) (Ev.now _)), fun h => by cases h⟩
 obtain ⟨c, c1, c2⟩ := chk_loop s (by omega) (g := fun k i => power_CheckSun.c0 k s s (s.length : Int) i) (fun k i => power_CheckSun.c0_eq _ _ _ _ _) (fun i => SpOk (s.getD i (Ty.dflt YLevel)).1 (s.getD i (Ty.dflt YLevel)).2 ∧ (0 < i → (s.getD (i - 1) (Ty.dflt YLevel)).2 < (s.getD i (Ty.dflt YLevel)).1)) (fun i hi => by
  rw [Int.toNat_natCast]
  obtain ⟨f, f1, f2⟩ := span_ev (s.getD i (Ty.dflt YLevel)).1 (s.getD i (Ty.dflt YLevel)).2
  have fe : Ev (fun k => power_span.f k (s.getD i (Ty.dflt YLevel)).1 (s.getD i (Ty.dflt YLevel)).2) (f, ()) := Ev.eq (fun k => f1 k) (Ev.now _)
  by_cases hf : f = 0
  case neg => exact .inl ⟨f, hf, fun h => hf (f2.2 h.1), Ev.bind fe (Ev.yes (by simpa using hf) (Ev.now _))⟩
  by_cases hi0 : 0 < i
  case neg => exact .inr ⟨⟨f2.1 hf, fun h => absurd h hi0⟩, fun r hr => Ev.bind fe (Ev.no (by simpa using hf) (Ev.no (by simpa using hi0) hr))⟩
  have hw : IntKind.wrap .i64 ((i : Int) - 1) = ((i - 1 : Nat) : Int) := by rw [w64 (by omega) (by omega)]; omega
  rw [hw, Int.toNat_natCast]
  by_cases hb : (s.getD i (Ty.dflt YLevel)).1 ≤ (s.getD (i - 1) (Ty.dflt YLevel)).2
  ·exact .inl ⟨8, by omega, fun h => by have := h.2 hi0; omega, Ev.bind fe (Ev.no (by simpa using hf) (Ev.yes (by simpa using hi0) (Ev.yes (by omega) (Ev.yes (by simpa using hb) (Ev.now _)))))⟩
  ·exact .inr ⟨⟨f2.1 hf, fun _ => by omega⟩, fun r hr => Ev.bind fe (Ev.no (by simpa using hf) (Ev.yes (by simpa using hi0) (Ev.yes (by omega) (Ev.no (by simpa using hb) hr))))⟩)
 refine ⟨c, Ev.eq (fun k => power_CheckSun.f_eq _ _) (Ev.no (by simpa using h0) c1), fun hc => ?_⟩
 have h := c2.1 hc
 have h1 : ∀ x ∈ s, SpOk x.1 x.2 := fun x hx => by
  obtain ⟨j, hj, rfl⟩ := List.getElem_of_mem hx
  have := (h j hj).1
  rwa [getD_nat _ _ j hj] at this
 exact ⟨by omega, h1, pair_step h1 fun j hj hj0 => (h j hj).2 hj0⟩
theorem word_ex (s : List UInt8) (hs : s.length ≤ 140737488351232) : ∃ b, Ev (fun k => telemetry_Word.f k s) (b, ()) := by
 by_cases h0 : s = []
 ·exact ⟨false, Ev.eq (fun k => by rw [telemetry_Word.f_eq]) (Ev.yes (by simpa using h0) (Ev.now _))⟩
 by_cases h1 : 40 < (s.length : Int)
 ·exact ⟨false, Ev.eq (fun k => by rw [telemetry_Word.f_eq]) (Ev.no (by simpa using h0) (Ev.yes (by simpa using h1) (Ev.now _)))⟩
 have h := Ev.rngR (σ := Unit) (0 : UInt8) s (by omega) (g := fun k _ i => telemetry_Word.c1 k s (s.length : Int) i) (fun k _ i => telemetry_Word.c1_eq _ _ _ _)
  (fun _ _ => True) (fun r : Bool × Unit => True) (fun _ _ => ⟨_, Ev.now _, trivial⟩) (fun i x _ hi hx _ hget hw _ next => by
   simp only [Int.toNat_natCast, hget, hw]
   obtain ⟨r, n1, _⟩ := next () trivial
   have key : ∀ {g : Nat → Option (Bool × Unit)}, (Ev g (false, ()) ∨ Ev g r) → ∃ r, Ev g r ∧ True := fun h => h.elim (fun h => ⟨_, h, trivial⟩) (fun h => ⟨_, h, trivial⟩)
   have sp : ∀ {c : Prop} {hd : Decidable c} {g f : Nat → Option (Bool × Unit)}, (Ev g (false, ()) ∨ Ev g r) → (Ev f (false, ()) ∨ Ev f r) → (Ev (fun k => if c then g k else f k) (false, ()) ∨ Ev (fun k => if c then g k else f k) r) := fun {c hd g f} y n => by
    by_cases h : c
    ·exact y.imp (fun y => Ev.yes h y) (fun y => Ev.yes h y)
    ·exact n.imp (fun n => Ev.no h n) (fun n => Ev.no h n)
   have F : Ev (fun _ : Nat => some (false, ())) (false, ()) ∨ Ev (fun _ : Nat => some (false, ())) r := .inl (Ev.now _)
   have N : Ev (fun k => telemetry_Word.c1 k s (s.length : Int) ((i : Int) + 1)) (false, ()) ∨ Ev (fun k => telemetry_Word.c1 k s (s.length : Int) ((i : Int) + 1)) r := .inr n1
   exact key (sp (sp F (sp (sp F (sp F N)) N)) (sp (sp F (sp (sp F (sp F N)) N)) N))) 0 () (by omega) trivial
 obtain ⟨⟨b, u⟩, h2, _⟩ := h
 have h2 : Ev (fun k => telemetry_Word.c1 k s (s.length : Int) 0) (b, u) := h2
 exact ⟨b, Ev.eq (fun k => by rw [telemetry_Word.f_eq]) (Ev.no (by simpa using h0) (Ev.no (by simpa using h1) (Ev.step (fun k => by rw [telemetry_Word.c0_eq]) h2)))⟩
def LoadsOk (l : List DUse) : Prop := l.length ≤ 50 ∧ ∀ x ∈ l, 0 ≤ x.2.1 ∧ x.2.1 ≤ 100000
theorem loads_ev (l : List DUse) (hn : ∀ x ∈ l, x.1.length ≤ 140737488351232) : ∃ f : Int, Ev (fun k => power_CheckLoads.f k l) (f, ()) ∧ (f = 0 → LoadsOk l) := by
 by_cases h0 : 50 < (l.length : Int)
 ·exact ⟨2, Ev.eq (fun k => power_CheckLoads.f_eq _ _) (Ev.yes (by simpa using h0) (Ev.now _)), fun h => by cases h⟩
 have ex : ∃ c : Int, Ev (fun k => power_CheckLoads.c0 k l l (l.length : Int) 0) (c, ()) ∧ (c = 0 → ∀ j, j < l.length → 0 ≤ (l.getD j (Ty.dflt YUse)).2.1 ∧ (l.getD j (Ty.dflt YUse)).2.1 ≤ 100000) := by
  have loop : ∀ (d i : Nat), i + d = l.length → ∃ c : Int, Ev (fun k => power_CheckLoads.c0 k l l (l.length : Int) i) (c, ()) ∧ (c = 0 → ∀ j, i ≤ j → j < l.length → 0 ≤ (l.getD j (Ty.dflt YUse)).2.1 ∧ (l.getD j (Ty.dflt YUse)).2.1 ≤ 100000) := by
   intro d
   induction d with
   | zero => intro i hi; exact ⟨0, Ev.step (fun k => power_CheckLoads.c0_eq _ _ _ _ _) (Ev.no (by simp; omega) (Ev.now _)), fun _ j h1 h2 => by omega⟩
   | succ d ih =>
    intro i hi
    obtain ⟨c, c1, c2⟩ := ih (i + 1) (by omega)
    have hw1 : IntKind.wrap .i64 ((i : Int) + 1) = ((i + 1 : Nat) : Int) := by rw [w64 (by omega) (by omega)]; omega
    obtain ⟨b, hb⟩ := word_ex (l.getD i (Ty.dflt YUse)).1 (hn _ (getD_mem (by omega)))
    have go : ∀ {f : Int}, Ev (fun k => if (!b) = true then some (5, ()) else (kit_In.f k (l.getD i (Ty.dflt YUse)).2.1 0 100000).bind fun r2 => if (!r2.1) = true then some (1, ()) else (kit_In.f k (l.getD i (Ty.dflt YUse)).2.2 0 1000).bind fun r3 => if (!r3.1) = true then some (1, ()) else if decide (0 < (i : Int)) = true then (if (0 : Int) ≤ IntKind.wrap .i64 ((i : Int) - 1) ∧ IntKind.wrap .i64 ((i : Int) - 1) < (l.length : Int) then if (!lessS (l.getD (IntKind.wrap .i64 ((i : Int) - 1)).toNat (Ty.dflt YUse)).1 (l.getD i (Ty.dflt YUse)).1) = true then some (8, ()) else power_CheckLoads.c0 k l l (l.length : Int) ((i + 1 : Nat) : Int) else none) else power_CheckLoads.c0 k l l (l.length : Int) ((i + 1 : Nat) : Int)) (f, ()) → Ev (fun k => power_CheckLoads.c0 k l l (l.length : Int) i) (f, ()) := fun {f} e => by
     refine Ev.step (fun k => power_CheckLoads.c0_eq _ _ _ _ _) (Ev.yes (by simp; omega) (Ev.yes (by omega) ?_))
     rw [Int.toNat_natCast, hw1]
     exact Ev.bind hb e
    simp only [in_ev, Option.bind_some] at go
    cases b with
    | false => exact ⟨5, go (Ev.yes rfl (Ev.now _)), fun h => by cases h⟩
    | true =>
     by_cases h1 : 0 ≤ (l.getD i (Ty.dflt YUse)).2.1 ∧ (l.getD i (Ty.dflt YUse)).2.1 ≤ 100000
     case neg => exact ⟨1, go (Ev.no (by simp) (Ev.yes (by rw [decide_eq_false h1]; rfl) (Ev.now _))), fun h => by cases h⟩
     by_cases h2 : 0 ≤ (l.getD i (Ty.dflt YUse)).2.2 ∧ (l.getD i (Ty.dflt YUse)).2.2 ≤ 1000
     case neg => exact ⟨1, go (Ev.no (by simp) (Ev.no (by rw [decide_eq_true h1]; simp) (Ev.yes (by rw [decide_eq_false h2]; rfl) (Ev.now _)))), fun h => by cases h⟩
     have ok : c = 0 → ∀ j, i ≤ j → j < l.length → 0 ≤ (l.getD j (Ty.dflt YUse)).2.1 ∧ (l.getD j (Ty.dflt YUse)).2.1 ≤ 100000 := fun h j j1 j2 => by
      rcases Nat.lt_or_ge i j with h3 | h3
      ·exact c2 h j h3 j2
      ·obtain rfl : i = j := by omega
       exact h1
     by_cases hi0 : 0 < i
     case neg => exact ⟨c, go (Ev.no (by simp) (Ev.no (by rw [decide_eq_true h1]; simp) (Ev.no (by rw [decide_eq_true h2]; simp) (Ev.no (by simpa using hi0) c1)))), ok⟩
     have hw : IntKind.wrap .i64 ((i : Int) - 1) = ((i - 1 : Nat) : Int) := by rw [w64 (by omega) (by omega)]; omega
     rw [hw] at go
     by_cases hls : lessS (l.getD (((i - 1 : Nat) : Int)).toNat (Ty.dflt YUse)).1 (l.getD i (Ty.dflt YUse)).1 = true
     ·exact ⟨c, go (Ev.no (by simp) (Ev.no (by rw [decide_eq_true h1]; simp) (Ev.no (by rw [decide_eq_true h2]; simp) (Ev.yes (by simpa using hi0) (Ev.yes (by omega) (Ev.no (by rw [hls]; simp) c1)))))), ok⟩
     ·exact ⟨8, go (Ev.no (by simp) (Ev.no (by rw [decide_eq_true h1]; simp) (Ev.no (by rw [decide_eq_true h2]; simp) (Ev.yes (by simpa using hi0) (Ev.yes (by omega) (Ev.yes (by simpa using hls) (Ev.now _))))))), fun h => by cases h⟩
  obtain ⟨c, c1, c2⟩ := loop l.length 0 (by omega)
  exact ⟨c, c1, fun h j hj => c2 h j (by omega) hj⟩
 obtain ⟨c, c1, c2⟩ := ex
 refine ⟨c, Ev.eq (fun k => power_CheckLoads.f_eq _ _) (Ev.no (by simpa using h0) c1), fun hc => ⟨by omega, fun x hx => ?_⟩⟩
 obtain ⟨j, hj, rfl⟩ := List.getElem_of_mem hx
 have := c2 hc j hj
 rwa [getD_nat _ _ j hj] at this
end Go.Proofs.Ytodnfnnfjnnhmaa.Pure

-- YtodnfnnfjnnhmaaR3
set_option linter.unusedVariables false
set_option linter.unusedSimpArgs false
namespace Go.Proofs.Ytodnfnnfjnnhmaa.Pure
open Go Go.Proofs.Ytodnfnnfjnnhmaa.A

abbrev U0 : DUse := Ty.dflt YUse
def NoClash (u : List DUse) (i : Nat) : Prop := ∀ k, k < u.length → k ≠ i → ¬ ((u.getD k U0).1 = (u.getD i U0).1 ∧ (u.getD k U0).2.1 ≤ (u.getD i U0).2.1 ∧ (u.getD i U0).2.1 < (u.getD k U0).2.2)
structure UsesOk (F : List UInt8 → DUse × Bool) (u : List DUse) : Prop where
 len : u.length ≤ 300
 at_ : ∀ x ∈ u, SpOk x.2.1 x.2.2 ∧ (F x.1).2 = true
 no : ∀ i, i < u.length → NoClash u i
theorem compare_ex (a b : DUse) : ∃ c : Int, ∀ k, power_compare.f k a b = some (c, ()) := by
 by_cases h1 : a.2.1 = b.2.1
 ·by_cases h2 : a.1 = b.1
  ·exact ⟨_, fun k => by rw [power_compare.f_eq, decide_eq_true h1, decide_eq_true h2]; rfl⟩
  ·exact ⟨_, fun k => by rw [power_compare.f_eq, decide_eq_true h1, decide_eq_false h2]; rfl⟩
 ·exact ⟨_, fun k => by rw [power_compare.f_eq, decide_eq_false h1]; rfl⟩
section
variable {l : List DUse} {F : List UInt8 → DUse × Bool} {u : List DUse}
theorem clash_in (hu : u.length ≤ 300) {i : Nat} (hi : i < u.length) {c : Int} (hc : Ev (fun k => power_CheckUses.c1 k u u (u.length : Int) ((i : Int) + 1)) (c, ())) : ∀ (d k0 : Nat), k0 + d = u.length →
 ∃ c' : Int, Ev (fun k => power_CheckUses.c2 k u i (u.getD i U0).1 (u.getD i U0).2.1 (u.getD i U0).2.2 u (u.length : Int) i u (u.length : Int) k0) (c', ()) ∧ (c' = 0 → c = 0 ∧ ∀ k, k0 ≤ k → k < u.length → k ≠ i → ¬ ((u.getD k U0).1 = (u.getD i U0).1 ∧ (u.getD k U0).2.1 ≤ (u.getD i U0).2.1 ∧ (u.getD i U0).2.1 < (u.getD k U0).2.2)) := by
 intro d
 induction d with
 | zero =>
  intro k0 h
  refine ⟨c, Ev.step (fun k => power_CheckUses.c2_eq _ _ _ _ _ _ _ _ _ _ _ _) (Ev.no (by simp; omega) ?_), fun h => ⟨h, fun k h1 h2 => by omega⟩⟩
  rw [w64 (by omega) (by omega)]; exact hc
 | succ d ih =>
  intro k0 h
  obtain ⟨c', c1, c2⟩ := ih (k0 + 1) (by omega)
  have hw1 : IntKind.wrap .i64 ((k0 : Int) + 1) = ((k0 + 1 : Nat) : Int) := by rw [w64 (by omega) (by omega)]; omega
  by_cases hcl : k0 ≠ i ∧ (u.getD k0 U0).1 = (u.getD i U0).1 ∧ (u.getD k0 U0).2.1 ≤ (u.getD i U0).2.1 ∧ (u.getD i U0).2.1 < (u.getD k0 U0).2.2
  ·refine ⟨12, Ev.step (fun k => power_CheckUses.c2_eq _ _ _ _ _ _ _ _ _ _ _ _) (Ev.yes (by simp; omega) (Ev.yes (by omega) ?_)), fun h => by cases h⟩
   rw [Int.toNat_natCast]
   have : ¬ ((k0 : Int) = (i : Int)) := by omega
   exact Ev.yes (by simp [this]) (Ev.yes (by simpa using hcl.2.1) (Ev.yes (by simpa using hcl.2.2.1) (Ev.yes (by simpa using hcl.2.2.2) (Ev.now _))))
  ·refine ⟨c', Ev.step (fun k => power_CheckUses.c2_eq _ _ _ _ _ _ _ _ _ _ _ _) (Ev.yes (by simp; omega) (Ev.yes (by omega) ?_)), fun h => ⟨(c2 h).1, fun k h1 h2 h3 => ?_⟩⟩
   ·rw [Int.toNat_natCast, hw1]
    simp only [decide_eq_true_eq, Bool.not_eq_true', decide_eq_false_iff_not]
    refine Ev.split (fun g1 => Ev.split (fun g2 => Ev.split (fun g3 => Ev.split (fun g4 => absurd ⟨by omega, g2, g3, g4⟩ hcl) (fun _ => c1)) (fun _ => c1)) (fun _ => c1)) (fun _ => c1)
   ·rcases Nat.lt_or_ge k0 k with h4 | h4
    ·exact (c2 h).2 k h4 h2 h3
    ·obtain rfl : k0 = k := by omega
     exact fun h => hcl ⟨h3, h⟩
theorem clash_loop (hu : u.length ≤ 300) : ∀ (d i : Nat), i + d = u.length → ∃ c : Int, Ev (fun k => power_CheckUses.c1 k u u (u.length : Int) i) (c, ()) ∧ (c = 0 → ∀ j, i ≤ j → j < u.length → NoClash u j) := by
 intro d
 induction d with
 | zero => intro i hi; exact ⟨0, Ev.step (fun k => power_CheckUses.c1_eq _ _ _ _ _) (Ev.no (by simp; omega) (Ev.now _)), fun _ j h1 h2 => by omega⟩
 | succ d ih =>
  intro i hi
  obtain ⟨c, c1, c2⟩ := ih (i + 1) (by omega)
  rw [show ((i + 1 : Nat) : Int) = (i : Int) + 1 by omega] at c1
  obtain ⟨c', d1, d2⟩ := clash_in hu (show i < u.length by omega) c1 u.length 0 (by omega)
  refine ⟨c', Ev.step (fun k => power_CheckUses.c1_eq _ _ _ _ _) (Ev.yes (by simp; omega) (Ev.yes (by omega) ?_)), fun h j h1 h2 => ?_⟩
  ·rw [Int.toNat_natCast]; exact d1
  ·rcases Nat.lt_or_ge i j with h3 | h3
   ·exact c2 (d2 h).1 j h3 h2
   ·obtain rfl : i = j := by omega
    exact fun k k1 k2 => (d2 h).2 k (by omega) k1 k2
theorem uses_loop (hF : ∀ t, Ev (fun k => power_load.f k l t) ((F t).1, (F t).2, ())) (hu : u.length ≤ 300) : ∀ (d i : Nat), i + d = u.length →
 ∃ c : Int, Ev (fun k => power_CheckUses.c0 k l u u (u.length : Int) i) (c, ()) ∧ (c = 0 → (∀ j, i ≤ j → j < u.length → SpOk (u.getD j U0).2.1 (u.getD j U0).2.2 ∧ (F (u.getD j U0).1).2 = true) ∧ ∀ j, j < u.length → NoClash u j) := by
 intro d
 induction d with
 | zero =>
  intro i hi
  obtain ⟨c, c1, c2⟩ := clash_loop hu u.length 0 (by omega)
  exact ⟨c, Ev.step (fun k => power_CheckUses.c0_eq _ _ _ _ _ _) (Ev.no (by simp; omega) c1), fun h => ⟨fun j h1 h2 => by omega, fun j hj => c2 h j (by omega) hj⟩⟩
 | succ d ih =>
  intro i hi
  obtain ⟨c, c1, c2⟩ := ih (i + 1) (by omega)
  have hw1 : IntKind.wrap .i64 ((i : Int) + 1) = ((i + 1 : Nat) : Int) := by rw [w64 (by omega) (by omega)]; omega
  obtain ⟨f, f1, f2⟩ := span_ev (u.getD i U0).2.1 (u.getD i U0).2.2
  have fe : Ev (fun k => power_span.f k (u.getD i U0).2.1 (u.getD i U0).2.2) (f, ()) := Ev.eq (fun k => f1 k) (Ev.now _)
  have go : ∀ {e : Int} {g : Nat → Option (Int × Unit)}, (∀ k, g k = (if (!(F (u.getD i U0).1).2) = true then some (9, ()) else (power_span.f k (u.getD i U0).2.1 (u.getD i U0).2.2).bind fun r3 => if (!(decide (r3.1 = 0))) = true then some (r3.1, ()) else if decide (0 < (i : Int)) = true then (if (0 : Int) ≤ IntKind.wrap .i64 ((i : Int) - 1) ∧ IntKind.wrap .i64 ((i : Int) - 1) < (u.length : Int) then (power_compare.f k (u.getD i U0) (u.getD (IntKind.wrap .i64 ((i : Int) - 1)).toNat U0)).bind fun r4 => if decide (r4.1 ≤ 0) = true then some (8, ()) else power_CheckUses.c0 k l u u (u.length : Int) ((i + 1 : Nat) : Int) else none) else power_CheckUses.c0 k l u u (u.length : Int) ((i + 1 : Nat) : Int))) → Ev g (e, ()) → Ev (fun k => power_CheckUses.c0 k l u u (u.length : Int) i) (e, ()) := fun {e g} hg h => by
   refine Ev.step (fun k => power_CheckUses.c0_eq _ _ _ _ _ _) (Ev.yes (by simp; omega) (Ev.yes (by omega) ?_))
   rw [Int.toNat_natCast, hw1]
   exact Ev.bind (hF _) (Ev.eq (fun k => (hg k).symm) h)
  cases hfl : (F (u.getD i U0).1).2 with
  | false =>
   rw [hfl] at go
   exact ⟨9, go (fun k => rfl) (Ev.yes rfl (Ev.now _)), fun h => by cases h⟩
  | true =>
   rw [hfl] at go
   by_cases hf : f = 0
   case neg => exact ⟨f, go (fun k => rfl) (Ev.no (by simp) (Ev.bind fe (Ev.yes (by simpa using hf) (Ev.now _)))), fun h => absurd h hf⟩
   have ok : c = 0 → (∀ j, i ≤ j → j < u.length → SpOk (u.getD j U0).2.1 (u.getD j U0).2.2 ∧ (F (u.getD j U0).1).2 = true) ∧ ∀ j, j < u.length → NoClash u j := fun h => ⟨fun j h1 h2 => by
    rcases Nat.lt_or_ge i j with h3 | h3
    ·exact (c2 h).1 j h3 h2
    ·obtain rfl : i = j := by omega
     exact ⟨f2.1 hf, hfl⟩, (c2 h).2⟩
   by_cases hi0 : 0 < i
   case neg => exact ⟨c, go (fun k => rfl) (Ev.no (by simp) (Ev.bind fe (Ev.no (by simpa using hf) (Ev.no (by simpa using hi0) c1)))), ok⟩
   have hw : IntKind.wrap .i64 ((i : Int) - 1) = ((i - 1 : Nat) : Int) := by rw [w64 (by omega) (by omega)]; omega
   rw [hw, Int.toNat_natCast] at go
   obtain ⟨q, hq⟩ := compare_ex (u.getD i U0) (u.getD (i - 1) U0)
   have qe : Ev (fun k => power_compare.f k (u.getD i U0) (u.getD (i - 1) U0)) (q, ()) := Ev.eq (fun k => hq k) (Ev.now _)
   by_cases hq0 : q ≤ 0
   ·exact ⟨8, go (fun k => rfl) (Ev.no (by simp) (Ev.bind fe (Ev.no (by simpa using hf) (Ev.yes (by simpa using hi0) (Ev.yes (by omega) (Ev.bind qe (Ev.yes (by simpa using hq0) (Ev.now _)))))))), fun h => by cases h⟩
   ·exact ⟨c, go (fun k => rfl) (Ev.no (by simp) (Ev.bind fe (Ev.no (by simpa using hf) (Ev.yes (by simpa using hi0) (Ev.yes (by omega) (Ev.bind qe (Ev.no (by simpa using hq0) c1))))))), ok⟩
end
structure InOk (c : DCell) (s : List DLevel) (l u : List DUse) (t : Int) (F : List UInt8 → DUse × Bool) : Prop where
 cell : CellOk c
 sun : SunOk s
 loads : LoadsOk l
 fn : ∀ t, Ev (fun k => power_load.f k l t) ((F t).1, (F t).2, ()) ∧ ((F t).2 = true → (F t).1 ∈ l ∧ (F t).1.1 = t) ∧ ((F t).2 = false → (F t).1.2.1 = 0)
 uses : UsesOk F u
 til : 0 ≤ t ∧ t ≤ 1000000000000
theorem uses_ev (l u : List DUse) (hn : ∀ x ∈ l, x.1.length ≤ 140737488351232) : ∃ f : Int, Ev (fun k => power_CheckUses.f k l u) (f, ()) ∧ (f = 0 → LoadsOk l ∧ ∃ F, (∀ t, Ev (fun k => power_load.f k l t) ((F t).1, (F t).2, ()) ∧ ((F t).2 = true → (F t).1 ∈ l ∧ (F t).1.1 = t) ∧ ((F t).2 = false → (F t).1.2.1 = 0)) ∧ UsesOk F u) := by
 obtain ⟨c, c1, c2⟩ := loads_ev l hn
 by_cases hc : c = 0
 case neg => exact ⟨c, Ev.eq (fun k => power_CheckUses.f_eq _ _ _) (Ev.bind c1 (Ev.yes (by simpa using hc) (Ev.now _))), fun h => absurd h hc⟩
 have hL := c2 hc
 have hll := hL.1
 by_cases h0 : 300 < (u.length : Int)
 ·exact ⟨2, Ev.eq (fun k => power_CheckUses.f_eq _ _ _) (Ev.bind c1 (Ev.no (by simpa using hc) (Ev.yes (by simpa using h0) (Ev.now _)))), fun h => by cases h⟩
 obtain ⟨F, hF⟩ := load_fn l (by omega)
 obtain ⟨d, d1, d2⟩ := uses_loop (l := l) (F := F) (u := u) (fun t => (hF t).1) (by omega) u.length 0 (by omega)
 refine ⟨d, Ev.eq (fun k => power_CheckUses.f_eq _ _ _) (Ev.bind c1 (Ev.no (by simpa using hc) (Ev.no (by simpa using h0) d1))), fun h => ⟨hL, F, hF, by omega, fun x hx => ?_, fun i hi => (d2 h).2 i hi⟩⟩
 obtain ⟨j, hj, rfl⟩ := List.getElem_of_mem hx
 have := (d2 h).1 j (by omega) hj
 rwa [getD_nat _ _ j hj] at this
theorem check_ev (c : DCell) (s : List DLevel) (l u : List DUse) (t : Int) (hn : ∀ x ∈ l, x.1.length ≤ 140737488351232) : ∃ f : Int, Ev (fun k => power_check.f k c s l u t) (f, ()) ∧ (f = 0 → ∃ F, InOk c s l u t F) := by
 obtain ⟨a, a1, a2⟩ := cell_ev c
 obtain ⟨b, b1, b2⟩ := sun_ev s
 obtain ⟨d, d1, d2⟩ := uses_ev l u hn
 refine ⟨firstN [a, b, d, if 0 ≤ t ∧ t ≤ 1000000000000 then 0 else 1], Ev.eq (fun k => power_check.f_eq _ _ _ _ _ _) (Ev.bind a1 (Ev.bind b1 (Ev.bind d1 ?_))), fun h => ?_⟩
 ·simp only [range_ev, Option.bind_some]
  exact Ev.bind (first_ev [a, b, d, if 0 ≤ t ∧ t ≤ 1000000000000 then 0 else 1] (by simp)) (Ev.now _)
 ·have h := firstN_zero.1 h
  obtain ⟨g1, F, g2, g3⟩ := d2 (h d (by simp))
  refine ⟨F, a2 (h a (by simp)), b2 (h b (by simp)), g1, g2, g3, ?_⟩
  have := h (if 0 ≤ t ∧ t ≤ 1000000000000 then 0 else 1) (by simp)
  by_cases ht : 0 ≤ t ∧ t ≤ 1000000000000
  ·exact ht
  ·rw [if_neg ht] at this; cases this
end Go.Proofs.Ytodnfnnfjnnhmaa.Pure

-- YtodnfnnfjnnhmaaR4
set_option linter.unusedVariables false
set_option linter.unusedSimpArgs false
namespace Go.Proofs.Ytodnfnnfjnnhmaa.Pure
open Go Go.Proofs.Ytodnfnnfjnnhmaa.A

def evTo (T : Int) : List (Int × Int) → Int
 | [] => 0
 | e :: E => (if e.1 ≤ T then e.2 else 0) + evTo T E
theorem evTo_append (T : Int) : ∀ (E F : List (Int × Int)), evTo T (E ++ F) = evTo T E + evTo T F
 | [], F => by simp [evTo]
 | e :: E, F => by simp only [List.cons_append, evTo, evTo_append T E F]; omega
def keySum (E : List (Int × Int)) : List Int → Int
 | [] => 0
 | k :: L => evSum k E + keySum E L
theorem keySum_nil : ∀ L : List Int, keySum [] L = 0
 | [] => rfl
 | k :: L => by simp only [keySum, evSum, keySum_nil L]; rfl
theorem keySum_append (E : List (Int × Int)) : ∀ (L M : List Int), keySum E (L ++ M) = keySum E L + keySum E M
 | [], M => by simp [keySum]
 | k :: L, M => by simp only [List.cons_append, keySum, keySum_append E L M]; omega
theorem keySum_cons (e : Int × Int) (E : List (Int × Int)) : ∀ {L : List Int}, L.Nodup → keySum (e :: E) L = (if e.1 ∈ L then e.2 else 0) + keySum E L
 | [], _ => by simp [keySum]
 | k :: L, h => by
  rw [List.nodup_cons] at h
  simp only [keySum, evSum, keySum_cons e E h.2]
  by_cases h1 : e.1 = k
  ·subst h1
   rw [if_pos rfl, if_neg h.1, if_pos (by simp)]; omega
  ·rw [if_neg h1]
   by_cases h2 : e.1 ∈ L
   ·rw [if_pos h2, if_pos (by simp [h2])]; omega
   ·rw [if_neg h2, if_neg (by simp [h1, h2])]; omega
theorem keySum_to {T : Int} {L : List Int} (hn : L.Nodup) : ∀ {E : List (Int × Int)}, (∀ e ∈ E, e.1 ∈ L ↔ e.1 ≤ T) → keySum E L = evTo T E
 | [], _ => keySum_nil L
 | e :: E, h => by
  rw [keySum_cons e E hn, evTo, keySum_to hn fun x hx => h x (by simp [hx])]
  have h1 := h e (by simp)
  by_cases h2 : e.1 ≤ T
  ·rw [if_pos h2, if_pos (h1.2 h2)]
  ·rw [if_neg h2, if_neg (fun h3 => h2 (h1.1 h3))]
theorem sum_bd {b : Int} (hb : 0 ≤ b) : ∀ {E : List (Int × Int)}, (∀ e ∈ E, -b ≤ e.2 ∧ e.2 ≤ b) → ∀ k, -(b * E.length) ≤ evSum k E ∧ evSum k E ≤ b * E.length
 | [], _, k => by simp [evSum]
 | e :: E, h, k => by
  have h1 := h e (by simp)
  obtain ⟨a, c⟩ := sum_bd hb (E := E) (fun x hx => h x (by simp [hx])) k
  simp only [evSum, List.length_cons]
  rw [show ((E.length + 1 : Nat) : Int) = (E.length : Int) + 1 by omega, Int.mul_add]
  split <;> omega

def sunE (n : Int) (s : List DLevel) : List (Int × Int) := s.flatMap fun x => [(x.1, n), (x.2, -n)]
def useE (p : DUse → Int) (u : List DUse) : List (Int × Int) := u.flatMap fun x => [(x.2.1, -(p x)), (x.2.2, p x)]
theorem sunE_late {n T : Int} : ∀ {s : List DLevel}, (∀ x ∈ s, T < x.1 ∧ x.1 < x.2) → evTo T (sunE n s) = 0
 | [], _ => rfl
 | x :: s, h => by
  have h1 := h x (by simp)
  have ih := sunE_late (n := n) (s := s) fun y hy => h y (by simp [hy])
  unfold sunE at ih ⊢
  rw [List.flatMap_cons, evTo_append, ih]
  simp only [evTo]
  rw [if_neg (by omega), if_neg (by omega)]; rfl
theorem sunE_bd {n T : Int} (hn : 0 ≤ n) : ∀ {s : List DLevel}, (∀ x ∈ s, SpOk x.1 x.2) → (s.Pairwise fun a b => a.2 < b.1) → 0 ≤ evTo T (sunE n s) ∧ evTo T (sunE n s) ≤ n
 | [], _, _ => by simp [sunE, evTo, hn]
 | x :: s, h, hp => by
  have h1 := h x (by simp)
  unfold SpOk at h1
  rw [List.pairwise_cons] at hp
  have ih := sunE_bd (T := T) hn (s := s) (fun y hy => h y (by simp [hy])) hp.2
  have late : T < x.2 → evTo T (sunE n s) = 0 := fun hT => sunE_late fun y hy => by
   have a := hp.1 y hy
   have b := h y (by simp [hy])
   unfold SpOk at b
   exact ⟨by omega, b.2.1⟩
  have e : evTo T (sunE n (x :: s)) = evTo T [(x.1, n), (x.2, -n)] + evTo T (sunE n s) := by
   unfold sunE; rw [List.flatMap_cons, evTo_append]
  rw [e]
  simp only [evTo]
  by_cases g2 : x.2 ≤ T
  ·rw [if_pos g2, if_pos (by omega)]; omega
  ·have := late (by omega)
   rw [if_neg g2, this]
   split <;> omega
def isOn (T : Int) (x : DUse) : Prop := x.2.1 ≤ T ∧ T < x.2.2
instance (T : Int) (x : DUse) : Decidable (isOn T x) := by unfold isOn; infer_instance
theorem useE_bd {p : DUse → Int} {T : Int} : ∀ {u : List DUse}, (∀ x ∈ u, SpOk x.2.1 x.2.2 ∧ 0 ≤ p x ∧ p x ≤ 100000) → -(100000 * ((u.filter fun x => decide (isOn T x)).length : Int)) ≤ evTo T (useE p u) ∧ evTo T (useE p u) ≤ 0
 | [], _ => by simp [useE, evTo]
 | x :: u, h => by
  obtain ⟨h1, h2, h3⟩ := h x (by simp)
  unfold SpOk at h1
  have ih := useE_bd (T := T) (u := u) fun y hy => h y (by simp [hy])
  have e : evTo T (useE p (x :: u)) = evTo T [(x.2.1, -(p x)), (x.2.2, p x)] + evTo T (useE p u) := by
   unfold useE; rw [List.flatMap_cons, evTo_append]
  rw [e]
  simp only [evTo]
  by_cases g : isOn T x
  ·rw [List.filter_cons_of_pos (by simpa using g), List.length_cons]
   unfold isOn at g
   rw [if_pos g.1, if_neg (by omega), show ((List.length (u.filter fun x => decide (isOn T x)) + 1 : Nat) : Int) = ((u.filter fun x => decide (isOn T x)).length : Int) + 1 by omega, Int.mul_add]
   omega
  ·rw [List.filter_cons_of_neg (by simpa using g)]
   unfold isOn at g
   by_cases g2 : x.2.2 ≤ T
   ·rw [if_pos g2, if_pos (by omega)]; omega
   ·rw [if_neg g2, if_neg (by omega)]; omega
theorem on_few {F : List UInt8 → DUse × Bool} {u l : List DUse} (hU : UsesOk F u) (hF : ∀ t, (F t).2 = true → (F t).1 ∈ l ∧ (F t).1.1 = t) (T : Int) : (u.filter fun x => decide (isOn T x)).length ≤ l.length := by
 have pw : u.Pairwise fun a b => a.1 = b.1 → ¬ (isOn T a ∧ isOn T b) := by
  rw [List.pairwise_iff_getElem]
  intro i j hi hj hij he ⟨ha, hb⟩
  unfold isOn at ha hb
  have n1 := hU.no i hi j hj (by omega)
  have n2 := hU.no j hj i hi (by omega)
  rw [getD_nat _ _ i hi, getD_nat _ _ j hj] at n1 n2
  by_cases h : u[j].2.1 ≤ u[i].2.1
  ·exact n1 ⟨he.symm, h, by omega⟩
  ·exact n2 ⟨he, by omega, by omega⟩
 have nd : ((u.filter fun x => decide (isOn T x)).map (·.1)).Nodup := by
  unfold List.Nodup
  rw [List.pairwise_map, List.pairwise_filter]
  exact pw.imp fun {a b} h ha hb e => h e ⟨by simpa using ha, by simpa using hb⟩
 have hl := nodup_len (m := l.map (·.1)) nd fun x hx => by
  obtain ⟨y, hy, rfl⟩ := List.mem_map.1 hx
  have hm := (List.mem_filter.1 hy).1
  obtain ⟨f1, f2⟩ := hF y.1 (hU.at_ y hm).2
  exact List.mem_map.2 ⟨_, f1, f2⟩
 simpa using hl
def allE (c : DCell) (p : DUse → Int) (s : List DLevel) (u : List DUse) : List (Int × Int) := [(0, -c.2.2.2.1)] ++ (sunE c.2.2.1 s ++ useE p u)
def pw (F : List UInt8 → DUse × Bool) (x : DUse) : Int := (F x.1).1.2.1
section
variable {c : DCell} {s : List DLevel} {l u : List DUse} {t : Int} {F : List UInt8 → DUse × Bool}
theorem InOk.pw (h : InOk c s l u t F) : ∀ x ∈ u, 0 ≤ pw F x ∧ pw F x ≤ 100000 := fun x hx => by
 have h1 := (h.uses.at_ x hx).2
 exact h.loads.2 _ ((h.fn x.1).2.1 h1).1
theorem all_to (h : InOk c s l u t F) {T : Int} (hT : 0 ≤ T) : -5100000 ≤ evTo T (allE c (Pure.pw F) s u) ∧ evTo T (allE c (Pure.pw F) s u) ≤ 100000 := by
 unfold allE
 rw [evTo_append, evTo_append]
 have a := sunE_bd (T := T) h.cell.sun.1 h.sun.2.1 h.sun.2.2
 have b := useE_bd (p := Pure.pw F) (T := T) (u := u) fun x hx => ⟨(h.uses.at_ x hx).1, h.pw x hx⟩
 have d := on_few h.uses (fun t => (h.fn t).2.1) T
 have e := h.loads.1
 have f := h.cell.base
 have g := h.cell.sun
 simp only [evTo]
 rw [if_pos hT]
 omega
theorem sunE_mem {n : Int} {s : List DLevel} {e : Int × Int} (h : e ∈ sunE n s) : ∃ x ∈ s, (e = (x.1, n) ∨ e = (x.2, -n)) := by
 obtain ⟨x, hx, he⟩ := List.mem_flatMap.1 h
 exact ⟨x, hx, by simpa using he⟩
theorem useE_mem {p : DUse → Int} {u : List DUse} {e : Int × Int} (h : e ∈ useE p u) : ∃ x ∈ u, (e = (x.2.1, -(p x)) ∨ e = (x.2.2, p x)) := by
 obtain ⟨x, hx, he⟩ := List.mem_flatMap.1 h
 exact ⟨x, hx, by simpa using he⟩
theorem all_mem (h : InOk c s l u t F) : ∀ e ∈ allE c (Pure.pw F) s u, 0 ≤ e.1 ∧ -100000 ≤ e.2 ∧ e.2 ≤ 100000 := by
 intro e he
 unfold allE at he
 have f := h.cell.base
 have g := h.cell.sun
 rcases List.mem_append.1 he with he | he
 ·simp at he; subst he; simp only; omega
 ·rcases List.mem_append.1 he with he | he
  ·obtain ⟨x, hx, rfl | rfl⟩ := sunE_mem he
   all_goals
    have := h.sun.2.1 x hx
    unfold SpOk at this
    simp only; omega
  ·obtain ⟨x, hx, rfl | rfl⟩ := useE_mem he
   all_goals
    have a := (h.uses.at_ x hx).1
    have b := h.pw x hx
    unfold SpOk at a
    simp only; omega
theorem sunE_len (n : Int) : ∀ s : List DLevel, (sunE n s).length = 2 * s.length
 | [] => rfl
 | x :: s => by have := sunE_len n s; unfold sunE at *; rw [List.flatMap_cons, List.length_append, this]; simp; omega
theorem useE_len (p : DUse → Int) : ∀ u : List DUse, (useE p u).length = 2 * u.length
 | [] => rfl
 | x :: u => by have := useE_len p u; unfold useE at *; rw [List.flatMap_cons, List.length_append, this]; simp; omega
theorem sunE_snoc (n : Int) (s : List DLevel) (x : DLevel) : sunE n (s ++ [x]) = sunE n s ++ [(x.1, n), (x.2, -n)] := by unfold sunE; simp
theorem useE_snoc (p : DUse → Int) (u : List DUse) (x : DUse) : useE p (u ++ [x]) = useE p u ++ [(x.2.1, -(p x)), (x.2.2, p x)] := by unfold useE; simp
theorem add_ev {m E : List (Int × Int)} (hm : MapIs m E) (hE : ∀ e ∈ E, -100000 ≤ e.2 ∧ e.2 ≤ 100000) (hl : E.length ≤ 5000) {a b n : Int} (hn : -100000 ≤ n ∧ n ≤ 100000) : ∃ m', (∀ k, power_flow_1.f k a b n m = some (m', ())) ∧ MapIs m' (E ++ [(a, n), (b, -n)]) := by
 have h1 := hm.put a n
 have b1 := sum_bd (by omega : (0 : Int) ≤ 100000) hE a
 have hE2 : ∀ e ∈ E ++ [(a, n)], -100000 ≤ e.2 ∧ e.2 ≤ 100000 := fun e he => by
  rcases List.mem_append.1 he with he | he
  ·exact hE e he
  ·simp at he; subst he; exact hn
 have b2 := sum_bd (by omega : (0 : Int) ≤ 100000) hE2 b
 have h2 := h1.put b (-n)
 rw [List.append_assoc] at h2
 refine ⟨_, fun k => ?_, h2⟩
 rw [power_flow_1.f_eq]
 have e1 : IntKind.wrap .i64 (mg a m + n) = mg a m + n := w64 (by rw [hm.get]; omega) (by rw [hm.get]; omega)
 have g1 := h1.get b
 rw [List.length_append, List.length_singleton] at b2
 have e2 : IntKind.wrap .i64 (mg b (mp a (mg a m + n) m) - n) = mg b (mp a (mg a m + n) m) + -n := by
  rw [w64 (by rw [g1]; omega) (by rw [g1]; omega)]; omega
 show some (mp b (IntKind.wrap .i64 (mg b (mp a (IntKind.wrap .i64 (mg a m + n)) m) - n)) (mp a (IntKind.wrap .i64 (mg a m + n)) m), ()) = _
 rw [e1, e2]
end
end Go.Proofs.Ytodnfnnfjnnhmaa.Pure

-- YtodnfnnfjnnhmaaR5
set_option linter.unusedVariables false
set_option linter.unusedSimpArgs false
namespace Go.Proofs.Ytodnfnnfjnnhmaa.Pure
open Go Go.Proofs.Ytodnfnnfjnnhmaa.A

structure POk (t : Int) (P : List Dpiece) : Prop where
 each : ∀ p ∈ P, 0 ≤ p.1 ∧ p.1 < p.2.1 ∧ p.2.1 ≤ t ∧ -5200000 ≤ p.2.2 ∧ p.2.2 ≤ 5200000
 ord : P.Pairwise fun a b => a.2.1 ≤ b.1
theorem POk.nil {t : Int} : POk t [] := ⟨by simp, List.Pairwise.nil⟩
theorem POk.first {t k c : Int} (h1 : 0 ≤ k ∧ k < t) (h2 : -5200000 ≤ c ∧ c ≤ 5200000) : POk t [(k, (t, c))] := ⟨fun p hp => by simp at hp; subst hp; simp only; omega, by simp⟩
theorem POk.next {t f k c d : Int} {A : List Dpiece} (h : POk t (A ++ [(f, (t, c))])) (h1 : f < k ∧ k < t) (h2 : -5200000 ≤ d ∧ d ≤ 5200000) : POk t ((A ++ [(f, (k, c))]) ++ [(k, (t, d))]) := by
 obtain ⟨e, o⟩ := h
 have ef := e (f, (t, c)) (by simp)
 simp only at ef
 rw [List.pairwise_append] at o
 refine ⟨fun p hp => ?_, ?_⟩
 ·rcases List.mem_append.1 hp with hp | hp
  ·rcases List.mem_append.1 hp with hp | hp
   ·exact e p (by simp [hp])
   ·simp at hp; subst hp; simp only; omega
  ·simp at hp; subst hp; simp only; omega
 ·rw [List.pairwise_append, List.pairwise_append]
  refine ⟨⟨o.1, by simp, fun a ha b hb => ?_⟩, by simp, fun a ha b hb => ?_⟩
  ·simp at hb; subst hb; exact o.2.2 a ha (f, (t, c)) (by simp)
  ·simp at hb; subst hb
   simp only
   rcases List.mem_append.1 ha with ha | ha
   ·have := o.2.2 a ha (f, (t, c)) (by simp)
    simp only at this
    omega
   ·simp at ha; subst ha; simp
def Run (t : Int) (T : List Dpiece) (k : Int) : Prop := T = [] ∨ ∃ A f c, T = A ++ [(f, (t, c))] ∧ POk t T ∧ f < k
theorem Run.mono {t k k' : Int} {T : List Dpiece} (h : Run t T k) (hk : k ≤ k') : Run t T k' := by
 rcases h with h | ⟨A, f, c, h1, h2, h3⟩
 ·exact .inl h
 ·exact .inr ⟨A, f, c, h1, h2, by omega⟩
theorem Run.ok {t k : Int} {T : List Dpiece} (h : Run t T k) : POk t T := by
 rcases h with rfl | ⟨A, f, c, h1, h2, h3⟩
 ·exact POk.nil
 ·exact h2
section
variable {c : DCell} {s : List DLevel} {l u : List DUse} {t : Int} {F : List UInt8 → DUse × Bool}
theorem sorted_lt {ks : List Int} (hs : ks.Pairwise (· ≤ ·)) (hn : ks.Nodup) : ks.Pairwise (· < ·) := (hs.and hn).imp fun ⟨h1, h2⟩ => by omega
theorem take_iff {ks : List Int} (hs : ks.Pairwise (· < ·)) {i : Nat} {k : Int} (hk : ks[i]? = some k) {x : Int} (hx : x ∈ ks) : x ∈ ks.take (i + 1) ↔ x ≤ k := by
 have e : ks = ks.take (i + 1) ++ ks.drop (i + 1) := (List.take_append_drop _ _).symm
 have ht : ks.take (i + 1) = ks.take i ++ [k] := take_snoc hk
 have hp := hs
 rw [e, List.pairwise_append] at hp
 constructor
 ·intro h
  rw [ht] at h
  have hp1 := hp.1
  rw [ht, List.pairwise_append] at hp1
  rcases List.mem_append.1 h with h | h
  ·have := hp1.2.2 x h k (by simp); omega
  ·simp at h; omega
 ·intro h
  rw [e] at hx
  rcases List.mem_append.1 hx with hx | hx
  ·exact hx
  ·have := hp.2.2 k (by rw [ht]; simp) x hx
   omega
theorem flow_pieces (h : InOk c s l u t F) {m : List (Int × Int)} (hm : MapIs m (allE c (pw F) s u)) {ks : List Int} (hp : ks.Perm (m.map (·.1))) (hs : ks.Pairwise (· ≤ ·)) : ∀ (d i : Nat) (T : List Dpiece), i + d = ks.length → T.length ≤ i → (∀ k, ks[i]? = some k → Run t T k) → (ks.length = i → POk t T) →
 ∃ P, Ev (fun k => power_flow.c3 k t m T (keySum (allE c (pw F) s u) (ks.take i)) ks (ks.length : Int) i) (P, ()) ∧ POk t P ∧ P.length ≤ ks.length := by
 have hn : ks.Nodup := hp.symm.nodup hm.nd
 have hlt := sorted_lt hs hn
 have hkl : ks.length ≤ 1601 := by
  have h1 := nodup_len (m := (allE c (pw F) s u).map (·.1)) hn fun x hx => (hm.ks x).1 (hp.subset hx)
  rw [List.length_map] at h1
  unfold allE at h1
  rw [List.length_append, List.length_append, sunE_len, useE_len, List.length_singleton] at h1
  have := h.sun.1
  have := h.uses.len
  omega
 have hmem : ∀ e ∈ allE c (pw F) s u, e.1 ∈ ks := fun e he => hp.symm.subset ((hm.ks e.1).2 (List.mem_map.2 ⟨e, he, rfl⟩))
 have hpos : ∀ k ∈ ks, 0 ≤ k := fun k hk => by
  obtain ⟨e, he, rfl⟩ := List.mem_map.1 ((hm.ks k).1 (hp.subset hk))
  exact (all_mem h e he).1
 -- what there is up to a key
 have now_is : ∀ {i : Nat} {k : Int}, ks[i]? = some k → keySum (allE c (pw F) s u) (ks.take (i + 1)) = evTo k (allE c (pw F) s u) := fun {i k} hk =>
  keySum_to (hn.sublist (List.take_sublist _ _)) fun e he => take_iff hlt hk (hmem e he)
 have now_bd : ∀ i, i ≤ ks.length → -5100000 ≤ keySum (allE c (pw F) s u) (ks.take i) ∧ keySum (allE c (pw F) s u) (ks.take i) ≤ 100000 := fun i hi => by
  cases i with
  | zero => simp [keySum]
  | succ i =>
   have hk : ks[i]? = some ks[i] := List.getElem?_eq_getElem (by omega)
   rw [now_is hk]
   exact all_to h (hpos _ (List.getElem_mem _))
 intro d
 induction d with
 | zero =>
  intro i T hi hT hr he
  exact ⟨T, Ev.step (fun k => power_flow.c3_eq _ _ _ _ _ _ _ _) (Ev.no (by simp; omega) (Ev.now _)), he (by omega), by omega⟩
 | succ d ih =>
  intro i T hi hT hr he
  obtain ⟨k, hk⟩ : ∃ k, ks[i]? = some k := ⟨ks[i], List.getElem?_eq_getElem (by omega)⟩
  have hkm : k ∈ ks := List.mem_of_getElem? hk
  have hk0 := hpos k hkm
  have hgi : ks.getD i 0 = k := by rw [List.getD_eq_getElem?_getD, hk]; rfl
  have hw1 : IntKind.wrap .i64 ((i : Int) + 1) = ((i + 1 : Nat) : Int) := by rw [w64 (by omega) (by omega)]; omega
  have hrun := hr k hk
  have ht := h.til
  by_cases hkt : t ≤ k
  ·refine ⟨T, Ev.step (fun k => power_flow.c3_eq _ _ _ _ _ _ _ _) (Ev.yes (by simp; omega) (Ev.yes (by omega) ?_)), hrun.ok, by omega⟩
   rw [Int.toNat_natCast, hgi]
   exact Ev.yes (by simpa using hkt) (Ev.now _)
  have hks : keySum (allE c (pw F) s u) (ks.take (i + 1)) = keySum (allE c (pw F) s u) (ks.take i) + mg k m := by
   rw [take_snoc hk, keySum_append, hm.get]; simp [keySum]
  have b1 := now_bd i (by omega)
  have b2 := now_bd (i + 1) (by omega)
  have hwn : IntKind.wrap .i64 (keySum (allE c (pw F) s u) (ks.take i) + mg k m) = keySum (allE c (pw F) s u) (ks.take (i + 1)) := by rw [← hks, w64 (by omega) (by omega)]
  have later : ∀ j k', i < j → ks[j]? = some k' → k < k' := fun j k' hj hk' => by
   rw [List.pairwise_iff_getElem] at hlt
   obtain ⟨h1, h2⟩ := List.getElem?_eq_some_iff.1 hk
   obtain ⟨h3, h4⟩ := List.getElem?_eq_some_iff.1 hk'
   have := hlt i j h1 h3 hj
   omega
  generalize keySum (allE c (pw F) s u) (ks.take i) = now at *
  -- the two ways on
  have stay := ih (i + 1) T (by omega) (by omega) (fun k' hk' => hrun.mono (by have := later (i + 1) k' (by omega) hk'; omega)) (fun _ => hrun.ok)
  have more : ∀ T', T'.length ≤ i + 1 → (∃ A f d, T' = A ++ [(f, (t, d))] ∧ POk t T' ∧ f ≤ k) → ∃ P, Ev (fun k => power_flow.c3 k t m T' (keySum (allE c (pw F) s u) (ks.take (i + 1))) ks (ks.length : Int) ((i + 1 : Nat) : Int)) (P, ()) ∧ POk t P ∧ P.length ≤ ks.length := fun T' hT' hx => by
   obtain ⟨A, f, d, x1, x2, x3⟩ := hx
   exact ih (i + 1) T' (by omega) hT' (fun k' hk' => .inr ⟨A, f, d, x1, x2, by have := later (i + 1) k' (by omega) hk'; omega⟩) (fun _ => x2)
  generalize hnow : keySum (allE c (pw F) s u) (ks.take (i + 1)) = now' at *
  -- a new piece
  have piece : ∃ P, Ev (fun q => if decide (0 < (T.length : Int)) = true then (if (0 : Int) ≤ (IntKind.wrap .i64 ((T.length : Int) - 1)) ∧ (IntKind.wrap .i64 ((T.length : Int) - 1)) < (T.length : Int) then (if (T.set (IntKind.wrap .i64 ((T.length : Int) - 1)).toNat ((T.getD (IntKind.wrap .i64 ((T.length : Int) - 1)).toNat (Ty.dflt Ypiece)).1, (k, (T.getD (IntKind.wrap .i64 ((T.length : Int) - 1)).toNat (Ty.dflt Ypiece)).2.2))).length + 1 ≤ 1099511627776 then power_flow.c3 q t m ((T.set (IntKind.wrap .i64 ((T.length : Int) - 1)).toNat ((T.getD (IntKind.wrap .i64 ((T.length : Int) - 1)).toNat (Ty.dflt Ypiece)).1, (k, (T.getD (IntKind.wrap .i64 ((T.length : Int) - 1)).toNat (Ty.dflt Ypiece)).2.2))) ++ [(k, (t, now'))]) now' ks (ks.length : Int) ((i + 1 : Nat) : Int) else none) else none) else (if T.length + 1 ≤ 1099511627776 then power_flow.c3 q t m (T ++ [(k, (t, now'))]) now' ks (ks.length : Int) ((i + 1 : Nat) : Int) else none)) (P, ()) ∧ POk t P ∧ P.length ≤ ks.length := by
   rcases hrun with rfl | ⟨A, f, d, rfl, x2, x3⟩
   ·obtain ⟨P, p1, p2, p3⟩ := more ([] ++ [(k, (t, now'))]) (by simp) ⟨[], k, now', rfl, POk.first ⟨hk0, by omega⟩ (by omega), Int.le_refl _⟩
    exact ⟨P, Ev.no (by simp) (Ev.yes (by simp) p1), p2, p3⟩
   ·have hlen : (A ++ [(f, (t, d))]).length = A.length + 1 := by simp
    have hwl : IntKind.wrap .i64 (((A ++ [(f, (t, d))]).length : Int) - 1) = (A.length : Int) := by rw [hlen, w64 (by omega) (by omega)]; omega
    have hg : (A ++ [(f, (t, d))]).getD A.length (Ty.dflt Ypiece) = (f, (t, d)) := by simp [List.getD_eq_getElem?_getD]
    have hset : (A ++ [(f, (t, d))]).set A.length (f, (k, d)) = A ++ [(f, (k, d))] := by simp
    obtain ⟨P, p1, p2, p3⟩ := more ((A ++ [(f, (k, d))]) ++ [(k, (t, now'))]) (by simp at hT ⊢; omega) ⟨A ++ [(f, (k, d))], k, now', rfl, x2.next ⟨x3, by omega⟩ (by omega), Int.le_refl _⟩
    refine ⟨P, Ev.yes (by rw [hlen]; simp) (Ev.yes (by rw [hwl, hlen]; omega) ?_), p2, p3⟩
    rw [hwl, Int.toNat_natCast, hg, hset]
    exact Ev.yes (by simp at hT ⊢; omega) p1
  have go : ∀ {P : List Dpiece} {g : Nat → Option (List Dpiece × Unit)}, Ev g (P, ()) → (∀ q, g q = (if decide (k = 0) = true then (if decide (0 < (T.length : Int)) = true then (if (0 : Int) ≤ (IntKind.wrap .i64 ((T.length : Int) - 1)) ∧ (IntKind.wrap .i64 ((T.length : Int) - 1)) < (T.length : Int) then (if (T.set (IntKind.wrap .i64 ((T.length : Int) - 1)).toNat ((T.getD (IntKind.wrap .i64 ((T.length : Int) - 1)).toNat (Ty.dflt Ypiece)).1, (k, (T.getD (IntKind.wrap .i64 ((T.length : Int) - 1)).toNat (Ty.dflt Ypiece)).2.2))).length + 1 ≤ 1099511627776 then power_flow.c3 q t m ((T.set (IntKind.wrap .i64 ((T.length : Int) - 1)).toNat ((T.getD (IntKind.wrap .i64 ((T.length : Int) - 1)).toNat (Ty.dflt Ypiece)).1, (k, (T.getD (IntKind.wrap .i64 ((T.length : Int) - 1)).toNat (Ty.dflt Ypiece)).2.2))) ++ [(k, (t, now'))]) now' ks (ks.length : Int) ((i + 1 : Nat) : Int) else none) else none) else (if T.length + 1 ≤ 1099511627776 then power_flow.c3 q t m (T ++ [(k, (t, now'))]) now' ks (ks.length : Int) ((i + 1 : Nat) : Int) else none))
   else (if (!(decide (now' = now))) = true then (if decide (0 < (T.length : Int)) = true then (if (0 : Int) ≤ (IntKind.wrap .i64 ((T.length : Int) - 1)) ∧ (IntKind.wrap .i64 ((T.length : Int) - 1)) < (T.length : Int) then (if (T.set (IntKind.wrap .i64 ((T.length : Int) - 1)).toNat ((T.getD (IntKind.wrap .i64 ((T.length : Int) - 1)).toNat (Ty.dflt Ypiece)).1, (k, (T.getD (IntKind.wrap .i64 ((T.length : Int) - 1)).toNat (Ty.dflt Ypiece)).2.2))).length + 1 ≤ 1099511627776 then power_flow.c3 q t m ((T.set (IntKind.wrap .i64 ((T.length : Int) - 1)).toNat ((T.getD (IntKind.wrap .i64 ((T.length : Int) - 1)).toNat (Ty.dflt Ypiece)).1, (k, (T.getD (IntKind.wrap .i64 ((T.length : Int) - 1)).toNat (Ty.dflt Ypiece)).2.2))) ++ [(k, (t, now'))]) now' ks (ks.length : Int) ((i + 1 : Nat) : Int) else none) else none) else (if T.length + 1 ≤ 1099511627776 then power_flow.c3 q t m (T ++ [(k, (t, now'))]) now' ks (ks.length : Int) ((i + 1 : Nat) : Int) else none)) else power_flow.c3 q t m T now' ks (ks.length : Int) ((i + 1 : Nat) : Int)))) → Ev (fun q => power_flow.c3 q t m T now ks (ks.length : Int) i) (P, ()) := fun {P g} hg he => by
   refine Ev.step (fun k => power_flow.c3_eq _ _ _ _ _ _ _ _) (Ev.yes (by simp; omega) (Ev.yes (by omega) ?_))
   rw [Int.toNat_natCast, hgi, hw1]
   refine Ev.no (by simpa using hkt) ?_
   have hwn' : IntKind.wrap .i64 (now + mapGet (.int .i64) (.int .i64) k m (0 : Int)) = now' := hwn
   rw [hwn']
   exact Ev.eq (fun q => (he q).symm) hg
  by_cases h0 : k = 0
  ·obtain ⟨P, p1, p2, p3⟩ := piece
   exact ⟨P, go (Ev.yes (by simpa using h0) p1) (fun q => rfl), p2, p3⟩
  ·by_cases hc : now' = now
   ·obtain ⟨P, p1, p2, p3⟩ := stay
    exact ⟨P, go (Ev.no (by simpa using h0) (Ev.no (by simpa using hc) p1)) (fun q => rfl), p2, p3⟩
   ·obtain ⟨P, p1, p2, p3⟩ := piece
    exact ⟨P, go (Ev.no (by simpa using h0) (Ev.yes (by simpa using hc) p1)) (fun q => rfl), p2, p3⟩
theorem keys_ev {m : List (Int × Int)} {keys : List Int} (hk : keys.length ≤ 1000000) {r : List Dpiece × Unit} (next : Ev (fun k => power_flow.c3 k t m [] 0 (sortI keys) ((sortI keys).length : Int) 0) r) :
 ∀ (n : Nat) (done : List Int) (cur : Option DLevel) (rest : List (Int × Int)), rest.length = n → (done ++ rest.map (·.1)).Perm keys → Ev (fun k => power_flow.c2 k t m done cur rest) r := by
 intro n
 induction n with
 | zero =>
  intro done cur rest hn hp
  obtain rfl : rest = [] := List.eq_nil_of_length_eq_zero hn
  refine Ev.step (fun k => by rw [power_flow.c2_eq]) ?_
  refine Ev.yes (by rfl) ?_
  rw [List.map_nil, List.append_nil] at hp
  rw [sortI_perm hp]
  exact next
 | succ n ih =>
  intro done cur rest hn hp
  refine Ev.step (fun k => by rw [power_flow.c2_eq]) ?_
  refine Ev.no (by omega) ?_
  refine Ev.agreeL (by intro e; subst e; simp at hn) fun i x hx => ?_
  have hi := (List.getElem?_eq_some_iff.1 hx).1
  have len := hp.length_eq
  rw [List.length_append, List.length_map] at len
  refine Ev.yes (by omega) (ih _ _ _ (by rw [List.length_eraseIdx]; split <;> omega) ?_)
  have := (perm_erase hx).map (·.1)
  rw [List.append_assoc]
  exact (this.symm.append_left done).trans hp
theorem flow_ev (h : InOk c s l u t F) : ∃ P, Ev (fun k => power_flow.f k c s l u t) (P, ()) ∧ POk t P ∧ P.length ≤ 1601 := by
 have hsl := h.sun.1
 have hul := h.uses.len
 have hb := h.cell.base
 have hsn := h.cell.sun
 -- the end, with the map whole
 have last : ∀ m, MapIs m (allE c (pw F) s u) → ∃ P, Ev (fun k => power_flow.c2 k t m [] none m) (P, ()) ∧ POk t P ∧ P.length ≤ 1601 := fun m hm => by
  have hml : (m.map (·.1)).length ≤ 1601 := by
   have h1 := nodup_len (m := (allE c (pw F) s u).map (·.1)) hm.nd fun x hx => (hm.ks x).1 hx
   rw [List.length_map] at h1
   unfold allE at h1
   rw [List.length_map, List.length_append, List.length_append, sunE_len, useE_len, List.length_singleton] at h1
   rw [List.length_map]
   omega
  obtain ⟨q1, q2⟩ := sortI_ok (m.map (·.1))
  obtain ⟨P, p1, p2, p3⟩ := flow_pieces h hm q1 q2 (sortI (m.map (·.1))).length 0 [] (by omega) (by simp) (fun _ _ => .inl rfl) (fun _ => POk.nil)
  rw [q1.length_eq] at p3
  exact ⟨P, keys_ev (keys := m.map (·.1)) (by omega) p1 m.length [] none m rfl (List.Perm.refl _), p2, by omega⟩
 -- the uses
 have second : ∀ m, MapIs m ([(0, -c.2.2.2.1)] ++ sunE c.2.2.1 s) → ∃ P, Ev (fun k => power_flow.c1 k l t m u (u.length : Int) 0) (P, ()) ∧ POk t P ∧ P.length ≤ 1601 := fun m hm => by
  have g := Ev.rngR (σ := List (Int × Int)) (Ty.dflt YUse) u (by omega) (g := fun k M i => power_flow.c1 k l t M u (u.length : Int) i) (fun k M i => power_flow.c1_eq _ _ _ _ _ _ _)
   (fun i M => MapIs M ([(0, -c.2.2.2.1)] ++ (sunE c.2.2.1 s ++ useE (pw F) (u.take i)))) (fun r => POk t r.1 ∧ r.1.length ≤ 1601) (fun M hM => by
    rw [List.take_length] at hM
    obtain ⟨P, p1, p2, p3⟩ := last M hM
    exact ⟨(P, ()), p1, p2, p3⟩) (fun i x M hi hx hget? hget hw hM next => by
    simp only [Int.toNat_natCast, hget, hw]
    have hpx := h.pw x hx
    have hE : ∀ e ∈ [((0 : Int), -c.2.2.2.1)] ++ (sunE c.2.2.1 s ++ useE (pw F) (u.take i)), -100000 ≤ e.2 ∧ e.2 ≤ 100000 := fun e he => by
     rcases List.mem_append.1 he with he | he
     ·simp at he; subst he; simp only; omega
     ·rcases List.mem_append.1 he with he | he
      ·obtain ⟨x, hx, rfl | rfl⟩ := sunE_mem he <;> (simp only; omega)
      ·obtain ⟨y, hy, rfl | rfl⟩ := useE_mem he <;> (have := h.pw y (List.mem_of_mem_take hy); simp only; omega)
    obtain ⟨M', a1, a2⟩ := add_ev hM hE (by rw [List.length_append, List.length_append, sunE_len, useE_len, List.length_singleton, List.length_take]; omega) (a := x.2.1) (b := x.2.2) (n := -(pw F x)) (by omega)
    obtain ⟨r, n1, n2⟩ := next M' (by
     rw [take_snoc hget?, useE_snoc]
     have : -(-(pw F x)) = pw F x := by omega
     rw [this] at a2
     simpa using a2)
    refine ⟨r, Ev.bind (h.fn x.1).1 ?_, n2⟩
    have hneg : IntKind.wrap .i64 (0 - (F x.1).1.2.1) = -(pw F x) := by
     have : (F x.1).1.2.1 = pw F x := rfl
     rw [this, w64 (by omega) (by omega)]; omega
    simp only [hneg, a1, Option.bind_some]
    exact n1) 0 m (by omega) (by simpa [useE] using hm)
  obtain ⟨⟨P, x⟩, p1, p2, p3⟩ := g
  exact ⟨P, p1, p2, p3⟩
 have m0 : MapIs (mp 0 (IntKind.wrap .i64 (0 - c.2.2.2.1)) []) [(0, -c.2.2.2.1)] := by
  have h0 : MapIs [] [] := ⟨fun _ => rfl, by simp, by simp⟩
  have := h0.put 0 (-c.2.2.2.1)
  have e : mg 0 [] + -c.2.2.2.1 = IntKind.wrap .i64 (0 - c.2.2.2.1) := by rw [w64 (by omega) (by omega)]; show (0 : Int) + _ = _; omega
  rw [e] at this
  exact this
 have g := Ev.rngR (σ := List (Int × Int)) (Ty.dflt YLevel) s (by omega) (g := fun k M i => power_flow.c0 k l u t c.1 c.2.1 c.2.2.1 c.2.2.2.1 c.2.2.2.2 M s (s.length : Int) i) (fun k M i => power_flow.c0_eq _ _ _ _ _ _ _ _ _ _ _ _ _)
  (fun i M => MapIs M ([(0, -c.2.2.2.1)] ++ sunE c.2.2.1 (s.take i))) (fun r => POk t r.1 ∧ r.1.length ≤ 1601) (fun M hM => by
   rw [List.take_length] at hM
   obtain ⟨P, p1, p2, p3⟩ := second M hM
   exact ⟨(P, ()), p1, p2, p3⟩) (fun i x M hi hx hget? hget hw hM next => by
   simp only [Int.toNat_natCast, hget, hw]
   have hE : ∀ e ∈ [((0 : Int), -c.2.2.2.1)] ++ sunE c.2.2.1 (s.take i), -100000 ≤ e.2 ∧ e.2 ≤ 100000 := fun e he => by
    rcases List.mem_append.1 he with he | he
    ·simp at he; subst he; simp only; omega
    ·obtain ⟨x, hx, rfl | rfl⟩ := sunE_mem he <;> (simp only; omega)
   obtain ⟨M', a1, a2⟩ := add_ev hM hE (by rw [List.length_append, sunE_len, List.length_singleton, List.length_take]; omega) (a := x.1) (b := x.2) (n := c.2.2.1) (by omega)
   obtain ⟨r, n1, n2⟩ := next M' (by rw [take_snoc hget?, sunE_snoc]; simpa using a2)
   refine ⟨r, ?_, n2⟩
   simp only [a1, Option.bind_some]
   exact n1) 0 (mp 0 (IntKind.wrap .i64 (0 - c.2.2.2.1)) []) (by omega) (by rw [List.take_zero]; exact m0)
 obtain ⟨⟨P, x⟩, p1, p2, p3⟩ := g
 have p1 : Ev (fun k => power_flow.c0 k l u t c.1 c.2.1 c.2.2.1 c.2.2.2.1 c.2.2.2.2 (mp 0 (IntKind.wrap .i64 (0 - c.2.2.2.1)) []) s (s.length : Int) 0) (P, x) := p1
 exact ⟨P, Ev.eq (fun k => power_flow.f_eq _ _ _ _ _ _) p1, p2, p3⟩
end
end Go.Proofs.Ytodnfnnfjnnhmaa.Pure
