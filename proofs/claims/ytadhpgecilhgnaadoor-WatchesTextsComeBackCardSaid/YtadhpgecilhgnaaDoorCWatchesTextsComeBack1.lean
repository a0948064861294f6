/- A watch is read as it was written, and the text of what was read is the text: for every watch and text the law returns true. The row lists two package-level variables with what they hold; the card ties them to the pruned copy of the program's text. -/
import Derived.Calls
import Derived.KernelRfl
import Derived.Laws.AppendOwn
import Derived.Lib.Bytealg
import Derived.Lib.Join
import Derived.Still
import Derived.Test.YtadhpgecilhgnaaDoorProg
-- YtadhpgecilhgnaaDoorAbs
set_option linter.unusedVariables false
namespace Go.Proofs.YtadhpgecilhgnaaDoor.A
open Go

inductive Ty where
 | unit | bool | int (k : IntKind) | str | pair (a b : Ty) | sl (e : Ty) | vec (e : Ty) | map (k e : Ty) | fnv (f : Nat) | nil | ptr (e : Ty) | fmap (k e : Ty) | mapb (k e : Ty) | nsl (e : Ty) | clo (f : Nat) (b : Bool) (e : Ty)
 deriving DecidableEq

@[reducible] def Ty.den : Ty → Type
 | .unit => Unit
 | .bool => Bool
 | .int _ => Int
 | .str => List UInt8
 | .pair a b => a.den × b.den
 | .sl e => List e.den
 | .vec e => List e.den
 | .map k e => List (k.den × e.den)
 | .fnv _ => Unit
 | .nil => Unit
 | .ptr e => Option e.den
 | .fmap k e => List (k.den × e.den)
 | .mapb k e => List (k.den × e.den)
 | .nsl e => List e.den
 | .clo _ _ e => e.den

def Ty.isFn : Ty → Bool
 | .fnv _ => true
 | _ => false
def Ty.dflt : (τ : Ty) → τ.den
 | .unit => ()
 | .bool => false
 | .int _ => 0
 | .str => []
 | .pair a b => (a.dflt, b.dflt)
 | .sl _ => []
 | .vec _ => []
 | .map _ _ => []
 | .fnv _ => ()
 | .nil => ()
 | .ptr _ => none
 | .fmap _ _ => []
 | .mapb _ _ => []
 | .nsl _ => []
 | .clo _ _ e => e.dflt

def castTo (σ τ : Ty) (x : σ.den) : Option τ.den := if h : σ = τ then some (h ▸ x) else none

def Ty.pure : Ty → Bool
 | .pair a b => a.pure && b.pure
 | .sl e => e.pure
 | .vec _ => false
 | .map _ _ => false
 | .ptr _ => false
 | .mapb _ _ => false
 | .nsl e => e.pure
 | .clo _ _ _ => false
 | _ => true
def Ty.frz : Ty → Ty
 | .pair a b => .pair a.frz b.frz
 | .vec e => .sl e.frz
 | t => t
def Ty.conv : (τ : Ty) → τ.den → τ.frz.den
 | .pair a b, x => (a.conv x.1, b.conv x.2)
 | .vec e, x => List.map e.conv x
 | .unit, x => x
 | .bool, x => x
 | .int _, x => x
 | .str, x => x
 | .sl _, x => x
 | .map _ _, x => x
 | .fnv _, x => x
 | .nil, x => x
 | .ptr _, x => x
 | .fmap _ _, x => x
 | .mapb _ _, x => x
 | .nsl _, x => x
 | .clo _ _ _, x => x
def Ty.frzB : Ty → Bool
 | .pair a b => a.frzB && b.frzB
 | .vec e => e.frzB
 | t => t.pure
def Ty.flatB : Ty → Bool
 | .pair a b => a.flatB && b.flatB
 | .sl _ => false
 | .vec _ => false
 | .map _ _ => false
 | .ptr _ => false
 | .fmap _ _ => false
 | .mapb _ _ => false
 | .nsl _ => false
 | .clo _ _ _ => false
 | _ => true
def Ty.one : Ty → Bool
 | .pair _ _ => false
 | .unit => false
 | .clo _ _ e => e.one
 | _ => true
def Ty.cells : Ty → Nat
 | .unit => 0
 | .pair a b => a.cells + b.cells
 | .clo _ _ e => e.cells
 | _ => 1

inductive LV where
 | v (τ : Ty) (x : τ.den)
 | nils | nilm | nilp
 | ptr (id off : Nat)
 | row (id : Nat)
 | sub (id g off : Nat)
 | subv (id g off lo sz : Nat)
 | vw (e : Ty) (xs : List e.den)
 | pel (τ : Ty) (x : τ.den) (off : Nat)
 | rel (id : Nat) (i : Nat) (off : Nat)
 | sel (id g off : Nat) (i : Nat) (off2 : Nat)
 | mapr (id : Nat)
 | itr (id : Nat)
 | mbr (id : Nat)
 | mel (id g : Nat) (k : Ty) (key : k.den) (off : Nat)
 | mvl (id g : Nat) (k : Ty) (key : k.den)
 | cst
 | pptr (id off : Nat) (ps : List (Nat × Nat × Bool))
 | mfl (mid id g off : Nat)
 | clo (f : Nat) (fst : Bool) (id : Nat)
 | cloi (f : Nat) (fst : Bool) (id : Nat)
 | junk

inductive AV where
 | val (agg : Bool) (ls : List LV)
 | tup (vs : List (Bool × List LV))
 | undef
 | junk

inductive Obj where
 | cells (g : Nat) (ls : List LV)
 | row (e : Ty) (xs : List e.den)
 | mapo (k e : Ty) (m : List (k.den × e.den))
 | iter (k e : Ty) (cur : Option (k.den × e.den)) (rest : List (k.den × e.den))
 | mapb (g : Nat) (k e : Ty) (m : List (k.den × e.den)) (hole : Option (k.den × Option Value))
 | rest (e : Ty) (l1 l2 : List e.den) (c1 c2 : List Value)

inductive Cell where
 | absent | dead | live (o : Obj) | frz (e : Ty) (xs : List e.den) | frzm (k e : Ty) (m : List (k.den × e.den))

abbrev Env := Nat → AV
abbrev Hp := Nat → Cell
def upd {α : Type} (f : Nat → α) (n : Nat) (x : α) : Nat → α := fun m => match Nat.beq m n with | true => x | false => f m
def ofL {α : Type} (d : α) : List (Nat × α) → Nat → α
 | [], _ => d
 | (n, x) :: l, m => match Nat.beq m n with | true => x | false => ofL d l m

inductive Tst (α : Type) : Type 1 where
 | ret (a : α)
 | fail
 | chk (p : Prop) (d : Decidable p) (t : Tst α)
 | br (b : Bool) (t e : Tst α)
 | opt {β : Type} (o : Option β) (k : β → Tst α)

def Tst.to {α R : Type} (K : α → Option R) : Tst α → Option R
 | .ret a => K a
 | .fail => none
 | .chk p d t => @ite _ p d (t.to K) none
 | .br b t e => if b = true then t.to K else e.to K
 | .opt o k => o.bind fun b => (k b).to K

def Tst.bind {α β : Type} (f : α → Tst β) : Tst α → Tst β
 | .ret a => f a
 | .fail => .fail
 | .chk p d t => .chk p d (t.bind f)
 | .br b t e => .br b (t.bind f) (e.bind f)
 | .opt o k => .opt o fun b => (k b).bind f

inductive DT (α : Type) : Type 1 where
 | ret (a : α)
 | fail
 | chk (p : Prop) (d : Decidable p) (t : DT α)
 | may (p : Prop) (d : Decidable p) (t e : DT α)
 | each {β : Type} (l : List β) (z : DT α) (k : β → List β → DT α)
open Classical in
noncomputable def agree2 {R : Type} (a b : Option R) : Option R := if a = b then a else none
open Classical in
noncomputable def agreeL {β R : Type} (l : List β) (K : β → List β → Option R) : Option R :=
 if h : ∃ r, ∀ (i : Nat) (x : β), l[i]? = some x → K x (l.eraseIdx i) = some r then some (Classical.choose h) else none
noncomputable def DT.to {α R : Type} (K : α → Option R) : DT α → Option R
 | .ret a => K a
 | .fail => none
 | .chk p d t => @ite _ p d (t.to K) none
 | .may p d t e => agree2 (e.to K) (@ite _ p d (t.to K) (e.to K))
 | .each l z k => if l.length = 0 then z.to K else agreeL l fun x r => (k x r).to K
theorem agree2_some {R : Type} {a b : Option R} {r : R} (h : agree2 a b = some r) : a = some r ∧ b = some r := by
 unfold agree2 at h
 split at h
 ·rename_i e; exact ⟨h, e ▸ h⟩
 ·cases h
theorem agreeL_some {β R : Type} {l : List β} {K : β → List β → Option R} {r : R} (hl : l ≠ []) (h : agreeL l K = some r) : ∀ (i : Nat) (x : β), l[i]? = some x → K x (l.eraseIdx i) = some r := by
 unfold agreeL at h
 split at h
 ·rename_i e
  injection h with h
  have := Classical.choose_spec e
  rw [h] at this
  exact this
 ·cases h

structure TI where
 agg : Bool
 ty : Ty
 bytes : Nat
 fields : List (Nat × Nat)
 elem : Nat
 key : Nat
 zero : List LV

inductive SbRes where
 | none | junk | len | str
structure SbRule where
 tb : Nat
 eb : Nat
 fst : Bool
 ins : List (Bool × Ty)
 res : SbRes
 f : List UInt8 → (ins.foldr (fun p t => Ty.pair p.2 t) .unit).den → Option (List UInt8)
structure FunE where
 ins : List (Bool × Ty)
 outs : List Ty
 f : (ins.foldr (fun p t => Ty.pair p.2 t) .unit).den → Option ((outs ++ (ins.filter (·.1)).map (·.2)).foldr Ty.pair .unit).den
 row : Option ((e : Ty) × (List e.den → Option (List e.den))) := none
 sb : Option SbRule := none

def flat : (τ : Ty) → τ.den → List LV
 | .unit, _ => []
 | .pair a b, x => flat a x.1 ++ flat b x.2
 | .bool, x => [.v .bool x]
 | .int k, x => [.v (.int k) x]
 | .str, x => [.v .str x]
 | .sl e, x => [.v (.sl e) x]
 | .vec e, x => [.v (.vec e) x]
 | .map k e, x => [.v (.map k e) x]
 | .fnv f, x => [.v (.fnv f) x]
 | .nil, _ => [.nils]
 | .ptr e, x => [.v (.ptr e) x]
 | .fmap k e, x => [.v (.fmap k e) x]
 | .mapb k e, x => [.v (.mapb k e) x]
 | .nsl e, x => [.v (.nsl e) x]
 | .clo _ _ e, x => flat e x

def slAs (e' e : Ty) (xs : List e'.den) : Option (List e.den) := match e'.pure with | true => castTo (.sl e') (.sl e) xs | false => none
def slAz (e' e : Ty) (xs : List e'.den) : Option (List e.den) := match e'.pure with
 | true => castTo (.sl e') (.sl e) xs
 | false => (match e'.frzB with | true => castTo (.sl e'.frz) (.sl e) (xs.map e'.conv) | false => none)
def LV.as (H : Hp) (τ : Ty) : LV → Option τ.den
 | .v σ x => castTo σ τ x
 | .nils => match τ with | .sl _ => some [] | .vec _ => some [] | .nil => some () | .nsl _ => some [] | _ => none
 | .row id => match τ with
  | .sl e => (match H id with
   | .live (.row e' xs) => slAz e' e xs
   | .frz e' xs => slAs e' e xs
   | _ => none)
  | _ => none
 | .vw e' xs => castTo (.sl e') τ xs
 | .mapr id => match τ with
  | .fmap k e => (match H id with
   | .live (.mapo k' e' mm) => castTo (.fmap k' e') (.fmap k e) mm
   | .frzm k' e' mm => castTo (.fmap k' e') (.fmap k e) mm
   | _ => none)
  | _ => none
 | .sub id g off => match τ with
  | .sl e => (match H id with
   | .live (.cells g' ls) => (match Nat.beq g g', ls[off]? with
    | true, some (.v (.vec e') xs) => slAz e' e xs
    | _, _ => none)
   | _ => none)
  | _ => none
 | _ => none

def asm1 (H : Hp) (τ : Ty) : List LV → Option (τ.den × List LV)
 | l :: ls => match l.as H τ with | some x => some (x, ls) | none => none
 | [] => none
def asm (H : Hp) : (τ : Ty) → List LV → Option (τ.den × List LV)
 | .unit, ls => some ((), ls)
 | .pair a b, ls => match asm H a ls with
  | some (x, ls) => (match asm H b ls with | some (y, ls) => some ((x, y), ls) | none => none)
  | none => none
 | .bool, ls => asm1 H .bool ls
 | .int k, ls => asm1 H (.int k) ls
 | .str, ls => asm1 H .str ls
 | .sl e, ls => asm1 H (.sl e) ls
 | .vec e, ls => asm1 H (.vec e) ls
 | .map k e, ls => asm1 H (.map k e) ls
 | .fnv f, ls => asm1 H (.fnv f) ls
 | .nil, ls => asm1 H .nil ls
 | .ptr e, ls => asm1 H (.ptr e) ls
 | .fmap k e, ls => asm1 H (.fmap k e) ls
 | .mapb k e, ls => asm1 H (.mapb k e) ls
 | .nsl e, ls => asm1 H (.nsl e) ls
 | .clo _ _ e, ls => asm H e ls
def asmAll (H : Hp) (τ : Ty) (ls : List LV) : Option τ.den := match asm H τ ls with | some (x, []) => some x | _ => none

def ofConst1 : Value → LV
 | .bool b => .v .bool b
 | .int k n => .v (.int k) n
 | .string s => .v .str s.data.toList
 | .slice none 0 0 => .nils
 | .map none => .nilm
 | .pointer none => .nilp
 | _ => .junk
def ofConst : Value → AV
 | .agg cs => .val true (cs.toList.map ofConst1)
 | .tuple _ => .junk
 | v => .val false [ofConst1 v]

def evalO (E : Env) : Operand → AV
 | .tmp t => E t
 | .const v => ofConst v
 | .global _ => .junk
 | .func f => .val false [.v (.fnv f) ()]

structure Way where
 rd : List Nat := []
 wr : List Nat := []
 run : Hp → Tst (AV × List (Nat × Cell))

def Way.fail : Way := { run := fun _ => .fail }
def Way.val (v : AV) : Way := { run := fun _ => .ret (v, []) }
def Way.one (l : LV) : Way := .val (.val false [l])

section
variable (tab : Nat → Option TI) (T : Nat → Option FunE)

def isAbsent : Cell → Bool
 | .absent => true
 | _ => false

def memN (n : Nat) : List Nat → Bool
 | [] => false
 | m :: l => match Nat.beq n m with | true => true | false => memN n l
def disjN (a b : List Nat) : Bool := a.all fun n => !memN n b
def nodupN : List Nat → Bool
 | [] => true
 | n :: l => !memN n l && nodupN l
def setLs : List LV → Nat → List LV → Option (List LV)
 | ls, _, [] => some ls
 | [], _, _ :: _ => none
 | _ :: ls, 0, n :: ns => (setLs ls 0 ns).map (n :: ·)
 | l :: ls, off + 1, ns => (setLs ls off ns).map (l :: ·)

def plainL : LV → Bool
 | .v _ _ => true
 | .nils => true
 | .nilm => true
 | .nilp => true
 | _ => false
def moveIn (H : Hp) : LV → LV × List (Nat × Cell)
 | .row id => match H id with
  | .live (.row e xs) => (.v (.vec e) xs, [(id, .dead)])
  | _ => (.junk, [])
 | .mapr id => match H id with
  | .live (.mapo k e m) => (.v (.map k e) m, [(id, .dead)])
  | _ => (.junk, [])
 | .v τ x => (.v τ x, [])
 | .nils => (.nils, [])
 | .nilm => (.nilm, [])
 | .nilp => (.nilp, [])
 | _ => (.junk, [])
def ownIds : List LV → List Nat
 | [] => []
 | .row id :: ls => id :: ownIds ls
 | .mapr id :: ls => id :: ownIds ls
 | _ :: ls => ownIds ls
def moveAll (H : Hp) (ls : List LV) : List LV × List (Nat × Cell) :=
 (ls.map fun l => (moveIn H l).1, ls.flatMap fun l => (moveIn H l).2)

def wBox (dst : Option Nat) : AV → Way
 | .val _ ls => match dst with
  | some d => { wr := d :: ownIds ls, run := fun H => if isAbsent (H d) && !memN d (ownIds ls) && nodupN (ownIds ls) && (moveAll H ls).1.all plainL then .ret (.val false [.ptr d 0], (d, .live (.cells 0 (moveAll H ls).1)) :: (moveAll H ls).2) else .fail }
  | none => .fail
 | _ => .fail

def pinOf : LV → Option (Nat × Bool)
 | .mapr m => some (m, false)
 | .mbr m => some (m, true)
 | _ => none
def pinsOf : Nat → List LV → List (Nat × Nat × Bool)
 | _, [] => []
 | j, l :: ls => match pinOf l with | some (m, b) => (j, m, b) :: pinsOf (j + 1) ls | none => pinsOf (j + 1) ls
def pinLeaf (l : LV) : LV := match pinOf l with | some _ => .cst | none => l
def pinB (l : LV) : Bool := match pinOf l with | some _ => true | none => plainL l
def plainC : LV → Bool
 | .cst => true
 | l => plainL l
def pinLive (H : Hp) (q : Nat × Nat × Bool) : Bool := match q.2.2, H q.2.1 with
 | false, .live (.mapo _ _ _) => true
 | true, .live (.mapb _ _ _ _ none) => true
 | _, _ => false
def wBoxP (dst : Option Nat) (x : AV) : Way :=
 match x with
 | .val g ls => match pinsOf 0 ls, dst with
  | [], _ => wBox dst x
  | ps, some d => { rd := ps.map (·.2.1), wr := [d], run := fun H => if isAbsent (H d) && !(memN d (ps.map (·.2.1))) && ls.all pinB && ps.all (pinLive H) then .ret (.val false [.pptr d 0 ps], [(d, .live (.cells 0 (ls.map pinLeaf)))]) else .fail }
  | _, none => .fail
 | _ => .fail

def outLeaf (id g off : Nat) : LV → LV
 | .v (.vec _) _ => .sub id g off
 | .v τ x => if τ.pure then .v τ x else .junk
 | .nils => .nils
 | .nilm => .nilm
 | .nilp => .nilp
 | _ => .junk
def outLeaves (id g : Nat) : Nat → List LV → List LV
 | _, [] => []
 | off, l :: ls => outLeaf id g off l :: outLeaves id g (off + 1) ls
def takeN : Nat → List LV → Option (List LV)
 | 0, _ => some []
 | n + 1, l :: ls => (takeN n ls).map (l :: ·)
 | _ + 1, [] => none

def wLoad (t : Nat) : AV → Way
 | .val false [.ptr id off] => match tab t with
  | some i => { rd := [id], run := fun H => match H id with
   | .live (.cells g ls) => (match takeN i.ty.cells (ls.drop off) with
    | some ns => .ret (.val i.agg (outLeaves id g off ns), [])
    | none => .fail)
   | _ => .fail }
  | none => .fail
 | .val false [.pel τ x off] => match tab t with
  | some i => (match takeN i.ty.cells ((flat τ x).drop off) with
   | some ns => .val (.val i.agg ns)
   | none => .fail)
  | none => .fail
 | .val false [.rel id n off] => match tab t with
  | some i => { rd := [id], run := fun H => match H id with
   | .live (.row e xs) => if e.pure then (match takeN i.ty.cells ((flat e (xs.getD n e.dflt)).drop off) with
    | some ns => .ret (.val i.agg ns, [])
    | none => .fail) else .fail
   | _ => .fail }
  | none => .fail
 | .val false [.sel id g o n off] => match tab t with
  | some i => { rd := [id], run := fun H => match H id with
   | .live (.cells g' ls) => (match ls[o]? with
    | some (.v (.vec e) xs) => if e.pure && Nat.beq g g' then (match takeN i.ty.cells ((flat e (xs.getD n e.dflt)).drop off) with
     | some ns => .ret (.val i.agg ns, [])
     | none => .fail) else .fail
    | _ => .fail)
   | _ => .fail }
  | none => .fail
 | _ => .fail

def wStore (t : Nat) (a : AV) (x : AV) : Way :=
 match a, x with
 | .val false [.ptr id off], .val g ls => match tab t with
  | some i => { wr := id :: ownIds ls, run := fun H => match H id with
   | .live (.cells v cs) => if Nat.beq ls.length i.ty.cells && !(Nat.beq ls.length 0) && (g == i.agg) && nodupN (id :: ownIds ls) && (moveAll H ls).1.all plainL then (match setLs cs off (moveAll H ls).1 with
    | some cs' => .ret (.undef, (id, .live (.cells (v + 2) cs')) :: (moveAll H ls).2)
    | none => .fail) else .fail
   | _ => .fail }
  | none => .fail
 | .val false [.rel id n off], .val g ls => match tab t with
  | some i => { wr := [id], run := fun H => match H id with
   | .live (.row e xs) => if e.pure && Nat.beq ls.length i.ty.cells && !(Nat.beq ls.length 0) && (g == i.agg) && ls.all plainL then (match setLs (flat e (xs.getD n e.dflt)) off ls with
    | some cs' => (match asmAll (fun _ => .absent) e cs' with
     | some y => .ret (.undef, [(id, .live (.row e (xs.set n y)))])
     | none => .fail)
    | none => .fail) else .fail
   | _ => .fail }
  | none => .fail
 | .val false [.sel id v o n off], .val g ls => match tab t with
  | some i => { wr := [id], run := fun H => match H id with
   | .live (.cells v' ls0) => (match ls0[o]? with
    | some (.v (.vec e) xs) => if e.pure && Nat.beq v v' && Nat.beq ls.length i.ty.cells && !(Nat.beq ls.length 0) && (g == i.agg) && ls.all plainL then (match setLs (flat e (xs.getD n e.dflt)) off ls with
     | some cs' => (match asmAll (fun _ => .absent) e cs' with
      | some y => (match setLs ls0 o [.v (.vec e) (xs.set n y)] with
       | some ls1 => .ret (.undef, [(id, .live (.cells v' ls1))])
       | none => .fail)
      | none => .fail)
     | none => .fail) else .fail
    | _ => .fail)
   | _ => .fail }
  | none => .fail
 | _, _ => .fail

def fieldOff (s f : Nat) : Option Nat := match tab s with
 | some i => (match i.agg, i.fields[f]? with
  | true, some (o, ft) => (match tab ft with
   | some j => (match Nat.beq j.ty.cells 0 with | true => none | false => some o)
   | none => none)
  | _, _ => none)
 | none => none
def slTy (t : Nat) : Option TI := match tab t with
 | some i => (match i.agg, i.ty with | false, .sl _ => (match tab i.elem with | some q => (match Nat.ble q.bytes 128 with | true => some q | false => none) | none => none) | _, _ => none)
 | none => none
def strTy (t : Nat) : Bool := match tab t with
 | some i => (match i.agg, i.ty with | false, .str => true | _, _ => false)
 | none => false
def wFieldAddr (s : Nat) (a : AV) (f : Nat) : Way :=
 match fieldOff tab s f with
 | some o => (match a with
  | .val false [.ptr id off] => { rd := [id], run := fun H => match H id with
   | .live (.cells _ _) => .ret (.val false [.ptr id (off + o)], [])
   | _ => .fail }
  | .val false [.pel τ x off] => .one (.pel τ x (off + o))
  | .val false [.rel id n off] => { rd := [id], run := fun H => match H id with
   | .live (.row _ _) => .ret (.val false [.rel id n (off + o)], [])
   | _ => .fail }
  | .val false [.sel id g o1 n off] => { rd := [id], run := fun H => match H id with
   | .live (.cells g' ls) => (match Nat.beq g g', ls[o1]? with
    | true, some (.v (.vec _) _) => .ret (.val false [.sel id g o1 n (off + o)], [])
    | _, _ => .fail)
   | _ => .fail }
  | _ => .fail)
 | none => .fail
def wField (s : Nat) (a : AV) (f : Nat) : Way :=
 match tab s, a with
 | some i, .val true ls => (match i.agg, i.fields[f]? with
  | true, some (o, ft) => (match tab ft with
   | some j => (match takeN j.ty.cells (ls.drop o) with
    | some ns => .val (.val j.agg ns)
    | none => .fail)
   | none => .fail)
  | _, _ => .fail)
 | _, _ => .fail

def slRd : LV → List Nat
 | .row id => [id]
 | .sub id _ _ => [id]
 | .subv id _ _ _ _ => [id]
 | .mapr id => [id]
 | .mbr id => [id]
 | _ => []
def slRead (H : Hp) : LV → Option ((e : Ty) × List e.den)
 | .v (.sl e) xs => some ⟨e, xs⟩
 | .vw e xs => some ⟨e, xs⟩
 | .v (.nsl e) xs => some ⟨e, xs⟩
 | .row id => match H id with
  | .live (.row e xs) => some ⟨e, xs⟩
  | .frz e xs => some ⟨e, xs⟩
  | _ => none
 | .sub id g off => match H id with
  | .live (.cells g' ls) => (match Nat.beq g g', ls[off]? with
   | true, some (.v (.vec e) xs) => some ⟨e, xs⟩
   | _, _ => none)
  | _ => none
 | .subv id g off lo sz => match H id with
  | .live (.cells g' ls) => (match Nat.beq g g', ls[off]? with
   | true, some (.v (.vec e) xs) => if Nat.beq e.cells sz then some ⟨e, xs.drop lo⟩ else none
   | _, _ => none)
  | _ => none
 | _ => none
def elemPtr (H : Hp) (e : Ty) (xs : List e.den) (n : Nat) : LV → LV
 | .row id => match H id with
  | .live _ => .rel id n 0
  | _ => .pel e (xs.getD n e.dflt) 0
 | .sub id g off => .sel id g off n 0
 | .subv id g off lo _ => .sel id g off (n + lo) 0
 | _ => .pel e (xs.getD n e.dflt) 0
def AV.int : AV → Option Int
 | .val false [.v (.int _) n] => some n
 | _ => none
def wIndexAddr (t : Nat) (a i : AV) : Way :=
 match a, i.int, slTy tab t with
 | .val false [l], some n, some q => { rd := slRd l, run := fun H => match slRead H l with
  | some ⟨e, xs⟩ => if Nat.beq e.cells q.ty.cells then .chk (0 ≤ n ∧ n < (xs.length : Int)) inferInstance (.ret (.val false [elemPtr H e xs n.toNat l], [])) else .fail
  | none => .fail }
 | _, _, _ => .fail
def wIndex (t : Nat) (a i : AV) : Way :=
 match strTy tab t, a, i.int with
 | true, .val false [.v .str s], some n => { run := fun _ => .chk (0 ≤ n ∧ n < (s.length : Int)) inferInstance (.ret (.val false [.v (.int .u8) ((s.getD n.toNat 0).toNat : Int)], [])) }
 | _, _, _ => .fail

def optInt (d : Int) : Option AV → Option Int
 | none => some d
 | some a => a.int
def wSlice (dst : Option Nat) (t : Nat) (a : AV) (lo hi : Option AV) : Way :=
 match a with
 | .val false [.v .str s] => (match strTy tab t, optInt 0 lo, optInt s.length hi with
  | true, some l, some h => { run := fun _ => .chk (0 ≤ l ∧ l ≤ h ∧ h ≤ (s.length : Int)) inferInstance (.ret (.val false [.v .str ((s.take h.toNat).drop l.toNat)], [])) }
  | _, _, _ => .fail)
 | .val false [.v (.sl e) xs] => (match slTy tab t, optInt 0 lo, optInt xs.length hi with
  | some q, some l, some h => if Nat.beq e.cells q.ty.cells && e.pure then { run := fun _ => .chk (0 ≤ l ∧ l ≤ h ∧ h ≤ (xs.length : Int)) inferInstance (.ret (.val false [.v (.sl e) ((xs.take h.toNat).drop l.toNat)], [])) } else .fail
  | _, _, _ => .fail)
 | .val false [.row id] => (match dst, hi with
  | some d, none => (match slTy tab t, optInt 0 lo with
   | some q, some l => { wr := [id, d], run := fun H => match H id with
    | .live (.row e xs) => if isAbsent (H d) && !(Nat.beq id d) && Nat.beq e.cells q.ty.cells && e.pure then .chk (0 ≤ l ∧ l ≤ (xs.length : Int)) inferInstance (.ret (.val false [.row d], [(id, .dead), (d, .live (.row e (xs.drop l.toNat)))])) else .fail
    | .frz e xs => if Nat.beq e.cells q.ty.cells && e.pure then .chk (0 ≤ l ∧ l ≤ (xs.length : Int)) inferInstance (.ret (.val false [.vw e (xs.drop l.toNat)], [])) else .fail
    | _ => .fail }
   | _, _ => .fail)
  | some d, some hi => (match slTy tab t, lo, hi.int with
   | some q, none, some h => { wr := [id, d], run := fun H => match H id with
    | .live (.row e xs) => if isAbsent (H d) && !(Nat.beq id d) && Nat.beq e.cells q.ty.cells && e.pure then .chk (0 ≤ h ∧ h ≤ (xs.length : Int)) inferInstance (.ret (.val false [.row d], [(id, .dead), (d, .live (.row e (xs.take h.toNat)))])) else .fail
    | _ => .fail }
   | _, _, _ => .fail)
  | _, _ => .fail)
 | .val false [.sub id g off] => (match hi, slTy tab t, optInt 0 lo with
  | none, some q, some l => { rd := [id], run := fun H => match H id with
   | .live (.cells g' ls) => (match Nat.beq g g', ls[off]? with
    | true, some (.v (.vec e) xs) => if Nat.beq e.cells q.ty.cells && e.pure then .chk (0 ≤ l ∧ l ≤ (xs.length : Int)) inferInstance (.ret (.val false [.subv id g off l.toNat e.cells], [])) else .fail
    | _, _ => .fail)
   | _ => .fail }
  | _, _, _ => .fail)
 | _ => .fail

def bitsOp (k : IntKind) (op : BinOp) (x y : Int) : Int :=
 let a := BitVec.ofInt k.bits x
 let b := BitVec.ofInt k.bits y
 match op with
 | .and => k.wrap (a &&& b).toNat
 | .or => k.wrap (a ||| b).toNat
 | .xor => k.wrap (a ^^^ b).toNat
 | _ => k.wrap (a &&& ~~~b).toNat
def shlI (k : IntKind) (x y : Int) : Int := k.wrap (x * 2 ^ (min y.toNat k.bits))
def shrI (k : IntKind) (x y : Int) : Int := x.fdiv (2 ^ (min y.toNat k.bits))
def lessS (a b : List UInt8) : Bool := Op.bytesLess a b

def Ty.eqB : Ty → Bool
 | .pair a b => a.eqB && b.eqB
 | .bool => true
 | .int _ => true
 | .str => true
 | _ => false
def eqV : (τ : Ty) → τ.den → τ.den → Bool
 | .pair a b, x, y => eqV a x.1 y.1 && eqV b x.2 y.2
 | .bool, x, y => decide (x = y)
 | .int _, x, y => decide (x = y)
 | .str, x, y => decide (x = y)
 | _, _, _ => false

def intOp (op : BinOp) (k : IntKind) (x y : Int) : Tst (AV × List (Nat × Cell)) :=
 let i (n : Int) : Tst (AV × List (Nat × Cell)) := .ret (.val false [.v (.int k) n], [])
 let b (n : Bool) : Tst (AV × List (Nat × Cell)) := .ret (.val false [.v .bool n], [])
 match op with
 | .add => i (k.wrap (x + y))
 | .sub => i (k.wrap (x - y))
 | .mul => i (k.wrap (x * y))
 | .quo => .chk (¬ y = 0) inferInstance (i (k.wrap (x.tdiv y)))
 | .rem => .chk (¬ y = 0) inferInstance (i (x.tmod y))
 | .and => i (bitsOp k .and x y)
 | .or => i (bitsOp k .or x y)
 | .xor => i (bitsOp k .xor x y)
 | .andNot => i (bitsOp k .andNot x y)
 | .eql => b (decide (x = y))
 | .neq => b (!decide (x = y))
 | .lss => b (decide (x < y))
 | .leq => b (decide (x ≤ y))
 | .gtr => b (decide (y < x))
 | .geq => b (decide (y ≤ x))
 | _ => .fail
def strOp (op : BinOp) (x y : List UInt8) : Tst (AV × List (Nat × Cell)) :=
 let b (n : Bool) : Tst (AV × List (Nat × Cell)) := .ret (.val false [.v .bool n], [])
 match op with
 | .add => .chk (x.length + y.length ≤ 4611686018427387904) inferInstance (.ret (.val false [.v .str (x ++ y)], []))
 | .eql => b (decide (x = y))
 | .neq => b (!decide (x = y))
 | .lss => b (lessS x y)
 | .leq => b (!lessS y x)
 | .gtr => b (lessS y x)
 | .geq => b (!lessS x y)
 | _ => .fail
def wBin (op : BinOp) (t : Nat) (x y : AV) : Way :=
 match x, y with
 | .val false [.v (.int k) a], .val false [.v (.int k') b] => (match op with
  | .shl => { run := fun _ => .chk (0 ≤ b) inferInstance (.ret (.val false [.v (.int k) (shlI k a b)], [])) }
  | .shr => { run := fun _ => .chk (0 ≤ b) inferInstance (.ret (.val false [.v (.int k) (shrI k a b)], [])) }
  | _ => if k = k' then { run := fun _ => intOp op k a b } else .fail)
 | .val false [.v .str a], .val false [.v .str b] => { run := fun _ => strOp op a b }
 | .val false [.v .bool a], .val false [.v .bool b] => (match tab t with
  | some i => (match i.agg, i.ty, op with
   | false, .bool, .eql => .one (.v .bool (decide (a = b)))
   | false, .bool, .neq => .one (.v .bool (!decide (a = b)))
   | _, _, _ => .fail)
  | none => .fail)
 | .val true as_, .val true bs => (match tab t with
  | some i => if i.agg && i.ty.eqB && !i.fields.isEmpty then (match asmAll (fun _ => .absent) i.ty as_, asmAll (fun _ => .absent) i.ty bs with
   | some a, some b => (match op with
    | .eql => .one (.v .bool (eqV i.ty a b))
    | .neq => .one (.v .bool (!eqV i.ty a b))
    | _ => .fail)
   | _, _ => .fail) else .fail
  | none => .fail)
 | _, _ => .fail
def wUn (op : UnOp) (x : AV) : Way :=
 match op, x with
 | .neg, .val false [.v (.int k) n] => .one (.v (.int k) (k.wrap (0 - n)))
 | .not, .val false [.v .bool b] => .one (.v .bool (!b))
 | _, _ => .fail
def wConvert (src dst : Nat) (x : AV) : Way :=
 match x, tab src, tab dst with
 | .val false [.v (.int _) n], some i, some j => (match i.agg, j.agg, i.ty, j.ty with | false, false, .int _, .int k => .one (.v (.int k) (k.wrap n)) | _, _, _, _ => .fail)
 | .val false [.v .str s], some i, some j => (match i.agg, j.agg, i.ty, j.ty with | false, false, .str, .str => .one (.v .str s) | _, _, _, _ => .fail)
 | _, _, _ => .fail

def wPick (c a b : AV) : Way :=
 match c with
 | .val false [.v .bool c] => { run := fun _ => .br c (.ret (a, [])) (.ret (b, [])) }
 | _ => .fail

def buildLs (pl : LV → Bool) (fs : List (Nat × Nat)) : List LV → List (Nat × AV) → Option (List LV)
 | ls, [] => some ls
 | ls, (i, .val g ns) :: ps => match fs[i]? with
  | some (o, ft) => (match tab ft with
   | some j => if Nat.beq ns.length j.ty.cells && !(Nat.beq ns.length 0) && (g || ns.all pl) then (match setLs ls o ns with | some ls => buildLs pl fs ls ps | none => none) else none
   | none => none)
  | none => none
 | _, _ => none
def buildAs (sz : Nat) : List LV → List (Nat × AV) → Option (List LV)
 | ls, [] => some ls
 | ls, (i, .val g ns) :: ps => if Nat.beq ns.length sz && !(Nat.beq ns.length 0) && (g || ns.all plainL) then (match setLs ls (i * sz) ns with | some ls => buildAs sz ls ps | none => none) else none
 | _, _ => none
def wBuildA (t : Nat) (ps : List (Nat × AV)) : Way :=
 match tab t with
 | some i => (match i.agg, i.fields, tab i.elem with
  | true, [], some q => (match Nat.beq i.ty.cells 0, buildAs q.ty.cells i.zero ps with | false, some ls => .val (.val true ls) | _, _ => .fail)
  | _, _, _ => .fail)
 | none => .fail
def wBuild (t : Nat) (ps : List (Nat × AV)) : Way :=
 match tab t with
 | some i => if i.agg && !i.fields.isEmpty then (match buildLs tab plainL i.fields i.zero ps with | some ls => .val (.val true ls) | none => .fail) else .fail
 | none => .fail

def slRds : List LV → List Nat
 | [] => []
 | l :: ls => slRd l ++ slRds ls
def buildRow (e : Ty) : Nat → List (Nat × AV) → Option (List e.den)
 | _, [] => some []
 | n, (i, .val g ls) :: ps => if Nat.beq i n && (g || ls.all plainL) then (match asmAll (fun _ => .absent) e ls, buildRow e (n + 1) ps with | some x, some xs => some (x :: xs) | _, _ => none) else none
 | _, _ => none
def wBuildSlice (dst : Option Nat) (t len : Nat) (ps : List (Nat × AV)) : Way :=
 match dst, slTy tab t with
 | some d, some j => { wr := [d], run := fun H => if isAbsent (H d) && Nat.beq ps.length len && Nat.ble (len * j.ty.cells) 16777216 && !(Nat.beq j.ty.cells 0) then (match buildRow j.ty 0 ps with
  | some xs => .ret (.val false [.row d], [(d, .live (.row j.ty xs))])
  | none => .fail) else .fail }
 | _, _ => .fail
def wMakeSlice (dst : Option Nat) (t : Nat) (len cap : AV) : Way :=
 match dst, slTy tab t, len.int, cap.int with
 | some d, some j, some n, some m => { wr := [d], run := fun H => if isAbsent (H d) && j.ty.pure then (match asmAll (fun _ => .absent) j.ty j.zero with
  | some z => .chk (0 ≤ n ∧ n ≤ m ∧ m ≤ 1099511627776) inferInstance (.ret (.val false [.row d], [(d, .live (.row j.ty (List.replicate n.toNat z)))]))
  | none => .fail) else .fail }
 | _, _, _, _ => .fail

def mapHas (τ σ : Ty) (k : τ.den) (m : List (τ.den × σ.den)) : Bool := m.any fun p => eqV τ p.1 k
def mapGet (τ σ : Ty) (k : τ.den) : List (τ.den × σ.den) → σ.den → σ.den
 | [], z => z
 | p :: m, z => if eqV τ p.1 k = true then p.2 else mapGet τ σ k m z
def mapPut (τ σ : Ty) (k : τ.den) (x : σ.den) : List (τ.den × σ.den) → List (τ.den × σ.den)
 | [] => [(k, x)]
 | p :: m => if eqV τ p.1 k = true then (k, x) :: m else p :: mapPut τ σ k x m
def putH (H : Hp) : List (Nat × Cell) → Hp
 | [] => H
 | p :: l => putH (upd H p.1 p.2) l
def only (H : Hp) (l : List Nat) : Hp := fun n => match memN n l with | true => H n | false => .absent
def srcRead (H : Hp) (e : Ty) : LV → Option (List e.den)
 | .nils => some []
 | .v .str s => castTo (.sl (.int .u8)) (.sl e) (s.map fun b => ((b.toNat : Nat) : Int))
 | l => match slRead H l with | some ⟨e', xs⟩ => castTo (.sl e') (.sl e) xs | none => none
def growRow (d : Nat) (e : Ty) (xs ys : List e.den) (ups : List (Nat × Cell)) : Tst (AV × List (Nat × Cell)) :=
 .chk (xs.length + ys.length ≤ 1099511627776) inferInstance (.ret (.val false [.row d], (d, .live (.row e (xs ++ ys))) :: ups))
def appT (ts : Array Nat) (j : TI) (m : LV) : Bool := Nat.beq ts.size 2 && (Nat.beq (ts.getD 0 0) (ts.getD 1 0) || (match m with | .v .str _ => strTy tab (ts.getD 1 0) | _ => (match slTy tab (ts.getD 1 0) with | some q => Nat.beq j.ty.cells q.ty.cells | none => false)))
def wAppend (dst : Option Nat) (ts : Array Nat) (x y : AV) : Way :=
 match dst, slTy tab (ts.getD 0 0), x, y with
 | some d, some j, .val false [l], .val false [m] => if appT tab ts j m then (match l with
  | .nils => { rd := slRd m, wr := [d], run := fun H => if isAbsent (H d) && !(memN d (slRd m)) && j.ty.pure && !(Nat.beq j.ty.cells 0) then (match srcRead H j.ty m with
   | some ys => growRow d j.ty [] ys []
   | none => .fail) else .fail }
  | .row id => { rd := slRd m, wr := [id, d], run := fun H => if isAbsent (H d) && !(Nat.beq id d) && !(memN id (slRd m)) && !(memN d (slRd m)) && j.ty.pure && !(Nat.beq j.ty.cells 0) then (match H id with
   | .live (.row e xs) => (match castTo (.sl e) (.sl j.ty) xs, srcRead H j.ty m with
    | some xs, some ys => growRow d j.ty xs ys [(id, .dead)]
    | _, _ => .fail)
   | _ => .fail) else .fail }
  | .sub id g off => { rd := slRd m, wr := [id, d], run := fun H => if isAbsent (H d) && !(Nat.beq id d) && !(memN id (slRd m)) && !(memN d (slRd m)) && j.ty.pure && !(Nat.beq j.ty.cells 0) then (match H id with
   | .live (.cells g' ls) => (match Nat.beq g g', ls[off]? with
    | true, some (.v (.vec e) xs) => (match castTo (.sl e) (.sl j.ty) xs, srcRead H j.ty m, setLs ls off [.junk] with
     | some xs, some ys, some ls' => growRow d j.ty xs ys [(id, .live (.cells (g' + 2) ls'))]
     | _, _, _ => .fail)
    | _, _ => .fail)
   | _ => .fail) else .fail }
  | _ => .fail) else .fail
 | _, _, _, _ => .fail

def wAppendB (dst : Option Nat) (ts : Array Nat) (x y : AV) : Way :=
 match x with
 | .val false [.mvl id g k key] =>
  let d := 400000 + dst.getD 99999
  let core := wAppend tab dst ts (.val false [.row d]) y
  { wr := id :: d :: (core.rd ++ core.wr), run := fun H => match H id with
   | .live (.mapb g' k' (.vec e) m none) => (match Nat.beq g g', castTo k k' key with
    | true, some key => if isAbsent (H d) && !memN id (d :: (core.rd ++ core.wr)) then
     (core.run (only (upd H d (.live (.row e (mapGet k' (.vec e) key m [])))) (core.rd ++ core.wr))).bind fun r =>
      (match memN d (r.2.map (·.1)), r.2.all fun p => memN p.1 core.wr with
      | true, true => .ret (r.1, r.2 ++ [(id, .live (.mapb (g + 1) k' (.vec e) m (some (key, none))))])
      | _, _ => .fail) else .fail
    | _, _ => .fail)
   | _ => .fail }
 | x => wAppend tab dst ts x y
def wAppendR (dst : Option Nat) (ts : Array Nat) (x y : AV) : Way :=
 match dst, slTy tab (ts.getD 0 0), x, y with
 | some d, some j, .val false [l], .val false [.row s] => if j.ty.pure then wAppendB tab dst ts x y else if appT tab ts j (.row s) then (match l with
  | .nils => { wr := [d, s], run := fun H => if isAbsent (H d) && !(Nat.beq s d) && !(Nat.beq j.ty.cells 0) then (match H s with
   | .live (.row e ys) => (match castTo (.sl e) (.sl j.ty) ys with
    | some ys => growRow d j.ty [] ys [(s, .dead)]
    | none => .fail)
   | _ => .fail) else .fail }
  | .row id => { wr := [d, s, id], run := fun H => if isAbsent (H d) && !(Nat.beq s d) && !(Nat.beq id d) && !(Nat.beq id s) && !(Nat.beq j.ty.cells 0) then (match H s, H id with
   | .live (.row e ys), .live (.row e' xs) => (match castTo (.sl e) (.sl j.ty) ys, castTo (.sl e') (.sl j.ty) xs with
    | some ys, some xs => growRow d j.ty xs ys [(s, .dead), (id, .dead)]
    | _, _ => .fail)
   | _, _ => .fail) else .fail }
  | .sub id g off => { wr := [d, s, id], run := fun H => if isAbsent (H d) && !(Nat.beq s d) && !(Nat.beq id d) && !(Nat.beq id s) && !(Nat.beq j.ty.cells 0) then (match H s, H id with
   | .live (.row e ys), .live (.cells g' ls) => (match Nat.beq g g', ls[off]? with
    | true, some (.v (.vec e') xs) => (match castTo (.sl e) (.sl j.ty) ys, castTo (.sl e') (.sl j.ty) xs, setLs ls off [.junk] with
     | some ys, some xs, some ls' => growRow d j.ty xs ys [(s, .dead), (id, .live (.cells (g' + 2) ls'))]
     | _, _, _ => .fail)
    | _, _ => .fail)
   | _, _ => .fail) else .fail }
  | _ => .fail) else .fail
 | _, _, _, _ => wAppendB tab dst ts x y
def wLen (t : Nat) : AV → Way
 | .val false [.v .str s] => if strTy tab t then .one (.v (.int .i64) (s.length : Int)) else .fail
 | .val false [.nils] => (match slTy tab t with | some _ => .one (.v (.int .i64) 0) | none => .fail)
 | .val false [l] => (match slTy tab t with
  | some _ => { rd := slRd l, run := fun H => match slRead H l with
   | some ⟨_, xs⟩ => .ret (.val false [.v (.int .i64) (xs.length : Int)], [])
   | none => .fail }
  | none => .fail)
 | _ => .fail
def mxI (x y : Int) : Int := if x < y then y else x
def mnI (x y : Int) : Int := if y < x then y else x
def foldI (f : Int → Int → Int) (k : IntKind) : Int → List AV → Option Int
 | x, [] => some x
 | x, .val false [.v (.int k') y] :: l => if k = k' then foldI f k (f x y) l else none
 | _, _ => none
def wMinMax (f : Int → Int → Int) : List AV → Way
 | .val false [.v (.int k) x] :: l => (match foldI f k x l with | some y => .one (.v (.int k) y) | none => .fail)
 | _ => .fail

def wExtract (t : AV) (n : Nat) : Way :=
 match t with
 | .tup vs => (match vs[n]? with | some (g, ls) => .val (.val g ls) | none => .fail)
 | _ => .fail

def boxOf (k e : Ty) (key : k.den) (m : List (k.den × Option e.den)) : e.den := (mapGet k (.ptr e) key m none).getD e.dflt
def ioId : Ty → AV → Option Nat
 | .clo f b _, .val false [.clo f' b' id] => (match Nat.beq f f' && (b == b') with | true => some id | false => none)
 | .clo _ _ _, _ => none
 | _, .val false [.ptr id 0] => some id
 | _, _ => none
def ioAV (id : Nat) : Ty → AV
 | .clo f b _ => .val false [.clo f b id]
 | _ => .val false [.ptr id 0]
def ownV (τ : Ty) : AV → List Nat
 | .val false [.ptr id 0] => (match τ with | .ptr _ => [id] | _ => [])
 | .val false [.row id] => (match τ with | .vec _ => [id] | _ => [])
 | .val false [.mbr id] => (match τ with | .mapb _ _ => [id] | _ => [])
 | _ => []
def ownArg (io : Bool) (τ : Ty) (a : AV) : List Nat := match io with
 | true => (match ioId τ a with | some id => [id] | none => [])
 | false => ownV τ a
def argRd (io : Bool) (τ : Ty) (a : AV) : List Nat :=
 match ownArg io τ a, a, io with
 | [], .val _ ls, false => slRds ls
 | _, _, _ => []
def ownIn (H : Hp) (τ : Ty) (g : Bool) (ls : List LV) : Option τ.den :=
 match g == !τ.one with
 | true => (match τ, ls with
  | .vec e, [.row id] => (match H id with | .live (.row e' xs) => castTo (.vec e') (.vec e) xs | _ => none)
  | .mapb k e, [.mbr id] => (match H id with | .live (.mapb _ k' e' mm none) => castTo (.mapb k' e') (.mapb k e) mm | _ => none)
  | τ, ls => asmAll H τ ls)
 | false => none
def argIn (H : Hp) (io : Bool) (τ : Ty) (a : AV) : Option τ.den := match io with
 | true => (match ioId τ a with
  | some id => (match H id with | .live (.cells _ ls) => asmAll (fun _ => .absent) τ ls | _ => none)
  | none => none)
 | false => (match a with
  | .val g ls => ownIn H τ g ls
  | _ => none)
def argsIn (H : Hp) : (ps : List (Bool × Ty)) → List AV → Option (ps.foldr (fun p t => Ty.pair p.2 t) .unit).den
 | [], [] => some ()
 | p :: ps, a :: as_ => (match argIn H p.1 p.2 a, argsIn H ps as_ with | some x, some xs => some (x, xs) | _, _ => none)
 | _, _ => none
def verOf : Cell → Nat
 | .live (.cells g _) => g
 | _ => 0
def outsOf (H : Hp) : (ps : List (Bool × Ty)) → List AV → (((ps.filter (·.1)).map (·.2)).foldr Ty.pair .unit).den → List (Nat × Cell)
 | [], _, _ => []
 | (false, τ) :: ps, a :: as_, x => (ownArg false τ a).map (fun i => (i, Cell.dead)) ++ outsOf H ps as_ x
 | (true, τ) :: ps, a :: as_, x => (match ioId τ a with
  | some id => (id, .live (.cells (verOf (H id) + 2) (flat τ x.1))) :: outsOf H ps as_ x.2
  | none => outsOf H ps as_ x.2)
 | (false, _) :: _, [], _ => []
 | (true, _) :: _, [], _ => []
def splitRes : (outs : List Ty) → (more : List Ty) → ((outs ++ more).foldr Ty.pair .unit).den → (outs.foldr Ty.pair .unit).den × (more.foldr Ty.pair .unit).den
 | [], _, x => ((), x)
 | _ :: outs, more, x => let r := splitRes outs more x.2; ((x.1, r.1), r.2)
def resLeaves (d : Nat) (τ : Ty) (x : τ.den) : (Bool × List LV) × List (Nat × Cell) :=
 match τ, x with
 | .vec e, x => ((false, [.row d]), [(d, .live (.row e x))])
 | .mapb k e, x => ((false, [.mbr d]), [(d, .live (.mapb 0 k e x none))])
 | .ptr e, none => ((false, [.nilp]), [(d, .live (.row .unit []))])
 | .ptr e, some y => ((false, [.ptr d 0]), [(d, .live (.cells 0 (flat e y)))])
 | .pair a b, x => ((true, flat (.pair a b) x), [])
 | .unit, x => ((true, []), [])
 | τ, x => ((false, flat τ x), [])
def resAll (d : Nat) : Nat → (outs : List Ty) → (outs.foldr Ty.pair .unit).den → List (Bool × List LV) × List (Nat × Cell)
 | _, [], _ => ([], [])
 | j, τ :: outs, x => let r := resLeaves (d + 100000 * j) τ x.1; let s := resAll d (j + 1) outs x.2; (r.1 :: s.1, r.2 ++ s.2)
def resIds (d : Nat) : Nat → List Ty → List Nat
 | _, [] => []
 | j, .vec _ :: outs => (d + 100000 * j) :: resIds d (j + 1) outs
 | j, .mapb _ _ :: outs => (d + 100000 * j) :: resIds d (j + 1) outs
 | j, .ptr _ :: outs => (d + 100000 * j) :: resIds d (j + 1) outs
 | j, _ :: outs => resIds d (j + 1) outs
def argOwns : List (Bool × Ty) → List AV → List Nat
 | p :: ps, a :: as_ => ownArg p.1 p.2 a ++ argOwns ps as_
 | _, _ => []
def rdIds : List (Bool × Ty) → List AV → List Nat
 | p :: ps, a :: as_ => argRd p.1 p.2 a ++ rdIds ps as_
 | _, _ => []
def Ty.vecP : Ty → Bool
 | .vec _ => true
 | _ => false
def Ty.mapP : Ty → Bool
 | .mapb _ _ => true
 | .ptr _ => true
 | _ => false
def ptrBr {α : Type} : (outs : List Ty) → (outs.foldr Ty.pair .unit).den → ((outs.foldr Ty.pair .unit).den → Tst α) → Tst α
 | [], x, k => k x
 | .ptr e :: outs, x, k => .br x.1.isSome (ptrBr outs x.2 fun y => k (some (x.1.getD e.dflt), y)) (ptrBr outs x.2 fun y => k (none, y))
 | _ :: outs, x, k => ptrBr outs x.2 fun y => k (x.1, y)
def rowish : Cell → Bool
 | .live (.row e _) => e.pure
 | .live (.mapo _ _ _) => true
 | .frz _ _ => true
 | .frzm _ _ _ => true
 | _ => false
def avOf : List (Bool × List LV) → AV
 | [(g, ls)] => .val g ls
 | vs => .tup vs
def freezeUps (H : Hp) : List Nat → List (Nat × Cell)
 | [] => []
 | id :: l => match H id with | .live (.row e xs) => (id, .frz e xs) :: freezeUps H l | .live (.mapo k e mm) => (id, .frzm k e mm) :: freezeUps H l | _ => freezeUps H l
def wCallF (F : FunE) (dst : Option Nat) (as_ : List AV) : Way :=
 let d := dst.getD 99999
 let lends := !(F.outs.all Ty.flatB && (F.ins.all fun p => !p.1 || p.2.flatB))
 let rows := rdIds F.ins as_
 let owns := argOwns F.ins as_
 let news := resIds d 0 F.outs
 { rd := if lends then [] else rows, wr := owns ++ news ++ (if lends then rows else []), run := fun H => if nodupN (owns ++ news) && (owns.all fun i => !memN i rows) && (news.all fun i => isAbsent (H i)) && (F.ins.all fun p => p.1 || p.2.pure || p.2.vecP) && (F.outs.all fun τ => τ.pure || τ.vecP || τ.mapP) && (!lends || rows.all fun i => rowish (H i)) then (match argsIn H F.ins as_ with
  | some xs => .opt (F.f xs) fun r =>
   let s := splitRes F.outs _ r
   ptrBr F.outs s.1 fun s1 =>
   let q := resAll d 0 F.outs s1
   .ret (avOf q.1, outsOf H F.ins as_ s.2 ++ q.2 ++ (if lends then freezeUps H rows else []))
  | none => .fail) else .fail }
def wCallRow (e : Ty) (f : List e.den → Option (List e.den)) (as_ : List AV) : Way :=
 match as_ with
 | [.val false [.row id]] => { wr := [id], run := fun H => match H id with
  | .live (.row e' xs) => (match castTo (.vec e') (.vec e) xs with
   | some xs => .opt (f xs) fun ys => .ret (.tup [], [(id, .live (.row e ys))])
   | none => .fail)
  | _ => .fail }
 | _ => .fail
def wCallM (F : FunE) (dst : Option Nat) (as_ : List AV) : Way :=
 match as_ with
 | .val false [.mel id g k key 0] :: as' =>
  let d := 300000 + dst.getD 99999
  let core := wCallF F dst (.val false [.ptr d 0] :: as')
  { wr := id :: d :: (core.rd ++ core.wr), run := fun H => match H id with
   | .live (.mapb g' k' (.ptr e) m none) => (match Nat.beq g g', castTo k k' key with
    | true, some key => if isAbsent (H d) && !memN id (d :: (core.rd ++ core.wr)) then
     (core.run (only (upd H d (.live (.cells 0 (flat e (boxOf k' e key m))))) (core.rd ++ core.wr))).bind fun r =>
      (match putH (fun _ => .absent) r.2 d, r.2.all fun p => memN p.1 core.wr with
      | .live (.cells gg ls), true => (match asmAll (fun _ => .absent) e ls, Nat.beq (gg % 2) 0 with
       | some y, true => .ret (r.1, r.2 ++ [(d, .dead), (id, .live (.mapb g k' (.ptr e) (mapPut k' (.ptr e) key (some y) m) none))])
       | _, _ => .fail)
      | _, _ => .fail) else .fail
    | _, _ => .fail)
   | _ => .fail }
 | as_ => wCallF F dst as_
def flatL : LV → Bool
 | .v τ _ => τ.pure
 | _ => false
def flatAV : AV → Bool
 | .val _ ls => ls.all flatL
 | .tup vs => vs.all fun p => p.2.all flatL
 | _ => false
def wCallR (F : FunE) (dst : Option Nat) (as_ : List AV) : Way :=
 match as_ with
 | .val false [.rel id i 0] :: as' =>
  let d := 600000 + dst.getD 99999
  let core := wCallF F dst (.val false [.ptr d 0] :: as')
  { wr := id :: d :: (core.rd ++ core.wr), run := fun H => match H id with
   | .live (.row e xs) => if isAbsent (H d) && !memN id (d :: (core.rd ++ core.wr)) then
    (core.run (only (upd H d (.live (.cells 1 (flat e (xs.getD i e.dflt))))) (core.rd ++ core.wr))).bind fun r =>
     (match putH (fun _ => .absent) r.2 d, r.2.all (fun p => memN p.1 core.wr), flatAV r.1 with
     | .live (.cells gg ls), true, true => (match asmAll (fun _ => .absent) e ls, Nat.beq (gg % 2) 1 with
      | some y, true => .ret (r.1, r.2 ++ [(d, .dead), (id, .live (.row e (xs.set i y)))])
      | _, _ => .fail)
     | _, _, _ => .fail) else .fail
   | _ => .fail }
 | as_ => wCallM F dst as_
def SbRes.av (y : List UInt8) : SbRes → AV
 | .none => .tup []
 | .junk => .junk
 | .len => .val false [.v (.int .i64) (y.length : Int)]
 | .str => .val false [.v .str y]
def sbO (tb eb : Nat) (x : List UInt8) : Obj := .iter (.fnv tb) (.pair (.fnv eb) .str) none [((), ((), x))]
def sbGet (tb eb : Nat) : Cell → Option (List UInt8)
 | .live (.iter (.fnv t) (.pair (.fnv e) .str) none [(_, (_, x))]) => (match Nat.beq t tb && Nat.beq e eb with | true => some x | false => none)
 | _ => none
def wCallS (q : SbRule) (id : Nat) (as_ : List AV) : Way :=
 { rd := rdIds q.ins as_, wr := [id], run := fun H => match memN id (rdIds q.ins as_), argOwns q.ins as_, q.ins.all (fun p => !p.1 && p.2.pure), sbGet q.tb q.eb (H id) with
  | false, [], true, some x => (match argsIn H q.ins as_ with
   | some xs => .opt (q.f x xs) fun y => .ret (q.res.av y, [(id, match q.res with | .str => .dead | _ => .live (sbO q.tb q.eb y))])
   | none => .fail)
  | _, _, _, _ => .fail }
def wCallB (q : SbRule) (as_ : List AV) : Way := match q.fst, as_ with
 | true, .val false [.itr id] :: as_ => wCallS q id as_
 | _, _ => .fail
def liveCells : Cell → Bool
 | .live (.cells _ _) => true
 | _ => false
def wLive (id : Nat) (W : Way) : Way := { rd := W.rd, wr := W.wr, run := fun H => match liveCells (H id) with | true => W.run H | false => .fail }
def wMakeFunc (fn : Fn) (fs cs : List AV) : Way :=
 match fn, fs, cs with
 | .func f, [], [] => .one (.v (.fnv f) ())
 | .func f, [.val false [.ptr id 0]], [] => { rd := [id], run := fun H => match H id with
  | .live (.cells _ _) => .ret (.val false [.clo f true id], [])
  | _ => .fail }
 | .func f, [], [.val false [.ptr id 0]] => { rd := [id], run := fun H => match H id with
  | .live (.cells _ _) => .ret (.val false [.clo f false id], [])
  | _ => .fail }
 | .func f, [], [.val false [.itr id]] => { rd := [id], run := fun H => match H id with
  | .live (.iter _ _ _ _) => .ret (.val false [.cloi f false id], [])
  | _ => .fail }
 | _, _, _ => .fail
def wCall (dst : Option Nat) (c : Call) (args : List AV) (callee : Option AV) : Way :=
 match c.callee with
 | .builtin .len => (match args, Nat.beq c.argTypes.size 1 with | [a], true => wLen tab (c.argTypes.getD 0 0) a | _, _ => .fail)
 | .builtin .append => (match args with | [a, b] => wAppendR tab dst c.argTypes a b | _ => .fail)
 | .builtin .max => wMinMax mxI args
 | .builtin .min => wMinMax mnI args
 | .value _ => (match callee with
  | some (.val false [.v (.fnv f) _]) => (match T f with
   | some F => (match F.row with
    | some q => wCallRow q.1 q.2 args
    | none => (match F.sb with
     | some q => wCallB q args
     | none => wCallR F dst args))
   | none => .fail)
  | some (.val false [.cloi f false id]) => (match T f with
   | some F => (match F.sb with
    | some q => (match q.fst with | false => wCallS q id args | true => .fail)
    | none => .fail)
   | none => .fail)
  | some (.val false [.clo f b id]) => (match T f with
   | some F => (match F.row with
    | some _ => .fail
    | none => wLive id (match b with | true => wCallF F dst (.val false [.ptr id 0] :: args) | false => wCallF F dst (args ++ [.val false [.ptr id 0]])))
   | none => .fail)
  | _ => .fail)
 | _ => .fail

def Ty.keyB : Ty → Bool
 | .bool => true
 | .int _ => true
 | .str => true
 | _ => false
def mapTy (t : Nat) : Option (TI × TI) := match tab t with
 | some i => (match i.agg, i.ty with
  | false, .map _ _ => (match tab i.key, tab i.elem with
   | some kj, some ej => (match kj.agg, kj.ty.keyB with | false, true => some (kj, ej) | _, _ => none)
   | _, _ => none)
  | _, _ => none)
 | none => none
def wMakeMap (dst : Option Nat) (t : Nat) : Way :=
 match dst, mapTy tab t with
 | some d, some (kj, ej) => { wr := [d], run := fun H => if isAbsent (H d) then .ret (.val false [.mapr d], [(d, .live (.mapo kj.ty ej.ty []))]) else .fail }
 | _, _ => .fail
def wMapUpdate (t : Nat) (a k x : AV) : Way :=
 match mapTy tab t, a, k, x with
 | some (kj, _), .val false [.mapr id], .val false ks, .val g ls => { wr := [id], run := fun H => match H id with
  | .live (.mapo τ σ m) => if decide (kj.ty = τ) && (g == !σ.one) then (match asmAll (fun _ => .absent) τ ks, asmAll (fun _ => .absent) σ ls with
   | some k, some y => .ret (.undef, [(id, .live (.mapo τ σ (mapPut τ σ k y m)))])
   | _, _ => .fail) else .fail
  | _ => .fail }
 | _, _, _, _ => .fail
def mapRead (H : Hp) : LV → Option ((k : Ty) × (e : Ty) × List (k.den × e.den))
 | .v (.fmap k e) m => some ⟨k, e, m⟩
 | .mapr id => match H id with
  | .live (.mapo k e m) => some ⟨k, e, m⟩
  | .frzm k e m => some ⟨k, e, m⟩
  | _ => none
 | _ => none
def wLookup (t : Nat) (a k : AV) (ok : Bool) : Way :=
 match mapTy tab t, a, k with
 | some (kj, ej), .val false [l], .val false ks => { rd := slRd l, run := fun H => match mapRead H l with
  | some ⟨τ, σ, m⟩ => if decide (kj.ty = τ) && (ej.agg == !σ.one) then (match asmAll (fun _ => .absent) τ ks, asmAll (fun _ => .absent) σ ej.zero with
   | some k, some z => let y := mapGet τ σ k m z
    .ret (if ok then .tup [(!σ.one, flat σ y), (false, [.v .bool (mapHas τ σ k m)])] else .val (!σ.one) (flat σ y), [])
   | _, _ => .fail) else .fail
  | none => .fail }
 | _, _, _ => .fail

def mapTyA (t : Nat) : Option (TI × TI) := match tab t with
 | some i => (match i.agg, i.ty with
  | false, .map _ _ => (match tab i.key, tab i.elem with
   | some kj, some ej => (match kj.agg, kj.fields, kj.ty, tab kj.elem with
    | true, [], .pair .str .str, some q => (match q.agg, q.ty with | false, .str => some (kj, ej) | _, _ => none)
    | _, _, _, _ => none)
   | _, _ => none)
  | _, _ => none)
 | none => none
def wMakeMapA (dst : Option Nat) (t : Nat) : Way :=
 match mapTyA tab t, dst with
 | some (kj, ej), some d => { wr := [d], run := fun H => if isAbsent (H d) then .ret (.val false [.mapr d], [(d, .live (.mapo (.pair .str .str) ej.ty []))]) else .fail }
 | _, _ => wMakeMap tab dst t
def wMapUpdateA (t : Nat) (a k x : AV) : Way :=
 match mapTyA tab t, a, k, x with
 | some _, .val false [.mapr id], .val true ks, .val g ls => { wr := [id], run := fun H => match H id with
  | .live (.mapo (.pair .str .str) σ m) => if (g == !σ.one) then (match asmAll (fun _ => .absent) (.pair .str .str) ks, asmAll (fun _ => .absent) σ ls with
   | some k, some y => .ret (.undef, [(id, .live (.mapo (.pair .str .str) σ (mapPut (.pair .str .str) σ k y m)))])
   | _, _ => .fail) else .fail
  | _ => .fail }
 | _, _, _, _ => .fail
def wLookupA (t : Nat) (a k : AV) (ok : Bool) : Way :=
 match mapTyA tab t, a, k with
 | some (_, ej), .val false [l], .val true ks => { rd := slRd l, run := fun H => match mapRead H l with
  | some ⟨.pair .str .str, σ, m⟩ => if (ej.agg == !σ.one) then (match asmAll (fun _ => .absent) (.pair .str .str) ks, asmAll (fun _ => .absent) σ ej.zero with
   | some k, some z => let y := mapGet (.pair .str .str) σ k m z
    .ret (if ok then .tup [(!σ.one, flat σ y), (false, [.v .bool (mapHas (.pair .str .str) σ k m)])] else .val (!σ.one) (flat σ y), [])
   | _, _ => .fail) else .fail
  | _ => .fail }
 | _, _, _ => wLookup tab t a k ok

def wRange (dst : Option Nat) (t : Nat) (a : AV) : Way :=
 match dst, mapTy tab t, a with
 | some d, some _, .val false [.mapr id] => { wr := [id, d], run := fun H => if isAbsent (H d) && !(Nat.beq id d) then (match H id with
  | .live (.mapo k e m) => .chk (k.isFn = false) inferInstance (.ret (.val false [.itr d], [(id, .frzm k e m), (d, .live (.iter k e none m))]))
  | .frzm k e m => .chk (k.isFn = false) inferInstance (.ret (.val false [.itr d], [(id, .frzm k e m), (d, .live (.iter k e none m))]))
  | _ => .fail) else .fail }
 | some d, some _, .val false [.v (.fmap k e) m] => { wr := [d], run := fun H => if isAbsent (H d) then .chk (k.isFn = false) inferInstance (.ret (.val false [.itr d], [(d, .live (.iter k e none m))])) else .fail }
 | _, _, _ => .fail
def wEntry (a : AV) : Way :=
 match a with
 | .val false [.itr id] => { rd := [id], run := fun H => match H id with
  | .live (.iter k e (some p) _) => .ret (.tup [(!k.one, flat k p.1), (!e.one, flat e p.2)], [])
  | _ => .fail }
 | _ => .fail
def wNilCheck : AV → Way
 | .val false [.ptr id off] => { rd := [id], run := fun H => match H id with
  | .live (.cells _ _) => .ret (.val false [.ptr id off], [])
  | _ => .fail }
 | .val false [.rel id n off] => { rd := [id], run := fun H => match H id with
  | .live (.row _ _) => .ret (.val false [.rel id n off], [])
  | _ => .fail }
 | .val false [.pel τ x off] => .one (.pel τ x off)
 | _ => .fail
def subZ (e : Ty) (xs : List e.den) : Option LV := match e.pure with
 | true => some (.v (.sl e) xs)
 | false => (match e.frzB with | true => some (.v (.sl e.frz) (xs.map e.conv)) | false => none)
def thaw (H : Hp) : LV → LV
 | .row id => match H id with
  | .live (.row e xs) => (match e.pure with | true => .v (.sl e) xs | false => .junk)
  | .frz e xs => .v (.sl e) xs
  | _ => .junk
 | .mapr id => match H id with
  | .live (.mapo k e mm) => .v (.fmap k e) mm
  | .frzm k e mm => .v (.fmap k e) mm
  | _ => .junk
 | .sub id g off => match H id with
  | .live (.cells g' ls) => (match Nat.beq g g', ls[off]? with
   | true, some (.v (.vec e) xs) => (match subZ e xs with | some l => l | none => .junk)
   | _, _ => .junk)
  | _ => .junk
 | .vw e xs => .v (.sl e) xs
 | l => l
def fz1 (H : Hp) : LV → List (Nat × Cell)
 | .row id => match H id with
  | .live (.row e xs) => (match e.pure with | true => [(id, .frz e xs)] | false => [])
  | _ => []
 | .mapr id => match H id with
  | .live (.mapo k e mm) => [(id, .frzm k e mm)]
  | _ => []
 | .sub id g off => match H id with
  | .live (.cells g' ls) => (match Nat.beq g g', ls[off]? with
   | true, some (.v (.vec e) xs) => (match subZ e xs with | some l => [(id, .live (.cells g' (ls.set off l)))] | none => [])
   | _, _ => [])
  | _ => []
 | _ => []
def fzL (H : Hp) : List LV → List LV × List (Nat × Cell)
 | [] => ([], [])
 | l :: ls => let r := fzL (putH H (fz1 H l)) ls; (thaw H l :: r.1, fz1 H l ++ r.2)
def fzA (H : Hp) : AV → AV × List (Nat × Cell)
 | .val g ls => let r := fzL H ls; (.val g r.1, r.2)
 | v => (v, [])
def fzPs (H : Hp) : List (Nat × AV) → List (Nat × AV) × List (Nat × Cell)
 | [] => ([], [])
 | p :: ps => let q := fzA H p.2; let r := fzPs (putH H q.2) ps; ((p.1, q.1) :: r.1, q.2 ++ r.2)
def avRds : AV → List Nat
 | .val _ ls => slRds ls
 | _ => []
def psRds : List (Nat × AV) → List Nat
 | [] => []
 | p :: ps => avRds p.2 ++ psRds ps
def wFz {β : Type} (ids K : List Nat) (tr : Hp → β × List (Nat × Cell)) (core : β → Way) : Way :=
 { wr := K ++ ids, run := fun H => let q := tr H
  match (core q.1).rd, disjN ids K with
  | [], true => ((core q.1).run (only (putH H q.2) (core q.1).wr)).bind fun r => .ret (r.1, q.2 ++ r.2)
  | _, _ => .fail }
def wBuildSliceF (dst : Option Nat) (t len : Nat) (ps : List (Nat × AV)) : Way :=
 match psRds ps, dst with
 | [], _ => wBuildSlice tab dst t len ps
 | ids, some d => wFz ids [d] (fun H => fzPs H ps) fun ps => wBuildSlice tab dst t len ps
 | _, none => .fail
def wMapUpdateF (t : Nat) (a k x : AV) : Way :=
 match avRds x, a with
 | [], _ => wMapUpdate tab t a k x
 | ids, .val false [.mapr id] => wFz ids [id] (fun H => fzA H x) fun x => wMapUpdate tab t a k x
 | _, _ => .fail
def hasSub : AV → Bool
 | .val _ ls => ls.any fun l => match l with | .sub _ _ _ => true | _ => false
 | _ => false
def wStoreU (t id off : Nat) : AV → Way
 | .val g ls => match ownIds ls with
  | [] => wStore tab t (.val false [.ptr id off]) (.val g ls)
  | _ => .fail
 | _ => .fail
def wStoreF (t : Nat) (a x : AV) : Way :=
 match hasSub x, a with
 | true, .val false [.ptr id off] => wFz (avRds x) [id] (fun H => fzA H x) (wStoreU tab t id off)
 | _, a => wStore tab t a x
def mapTyB (t : Nat) : Option (TI × TI × Ty) := match mapTy tab t, tab t with
 | some (kj, ej), some i => (match i.ty with
  | .map _ (.ptr e) => (match ej.agg, ej.ty.one, ej.zero with | false, true, [.nilp] => some (kj, ej, .ptr e) | _, _, _ => none)
  | .map _ (.vec e) => (match ej.agg, ej.zero, e.pure with | false, [.nils], true => some (kj, ej, .vec e) | _, _, _ => none)
  | _ => none)
 | _, _ => none
def wMakeMapB (dst : Option Nat) (t : Nat) : Way :=
 match mapTyB tab t, dst with
 | some (kj, _, σ), some d => { wr := [d], run := fun H => if isAbsent (H d) then .ret (.val false [.mbr d], [(d, .live (.mapb 0 kj.ty σ [] none))]) else .fail }
 | _, _ => wMakeMapA tab dst t
def wMapUpdateB (t : Nat) (a k x : AV) : Way :=
 match a, x with
 | .val false [.mbr id], .val false [.ptr id2 0] => (match mapTy tab t, k with
  | some (kj, _), .val false ks => { wr := [id, id2], run := fun H => match H id, H id2 with
   | .live (.mapb g τ (.ptr e) m none), .live (.cells g2 ls) => if decide (kj.ty = τ) && !(Nat.beq id id2) && Nat.beq (g2 % 2) 0 then (match asmAll (fun _ => .absent) τ ks, asmAll (fun _ => .absent) e ls with
    | some k, some y => .ret (.undef, [(id, .live (.mapb (g + 1) τ (.ptr e) (mapPut τ (.ptr e) k (some y) m) none)), (id2, .dead)])
    | _, _ => .fail) else .fail
   | _, _ => .fail }
  | _, _ => .fail)
 | .val false [.mbr id], .val false [.row id2] => (match mapTy tab t, k with
  | some (kj, _), .val false ks => { wr := [id, id2], run := fun H => match H id, H id2 with
   | .live (.mapb g τ (.vec e) m (some (hk, none))), .live (.row e' xs) => if decide (kj.ty = τ) && !(Nat.beq id id2) then (match asmAll (fun _ => .absent) τ ks, castTo (.vec e') (.vec e) xs with
    | some k, some xs => .chk (eqV τ k hk = true) inferInstance (.ret (.undef, [(id, .live (.mapb (g + 1) τ (.vec e) (mapPut τ (.vec e) k xs m) none)), (id2, .dead)]))
    | _, _ => .fail) else .fail
   | _, _ => .fail }
  | _, _ => .fail)
 | _, _ => wMapUpdateF tab t a k x
def wLookupB (t : Nat) (a k : AV) (ok : Bool) : Way :=
 match a with
 | .val false [.mbr id] => (match mapTy tab t, k, ok with
  | some (kj, ej), .val false ks, false => { rd := [id], run := fun H => match H id, ej.agg, ej.zero with
   | .live (.mapb g τ (.ptr e) m none), false, [.nilp] => if decide (kj.ty = τ) then (match asmAll (fun _ => .absent) τ ks with
    | some k => .br (mapGet τ (.ptr e) k m none).isSome (.ret (.val false [.mel id g τ k 0], [])) (.ret (.val false [.nilp], []))
    | none => .fail) else .fail
   | .live (.mapb g τ (.vec e) m none), false, [.nils] => if decide (kj.ty = τ) then (match asmAll (fun _ => .absent) τ ks with
    | some k => .ret (.val false [.mvl id g τ k], [])
    | none => .fail) else .fail
   | _, _, _ => .fail }
  | _, _, _ => .fail)
 | _ => wLookupA tab t a k ok
def pureL : LV → Bool
 | .v τ _ => τ.pure
 | .nils => true
 | .nilm => true
 | .nilp => true
 | _ => false
def wLoadB (t : Nat) (a : AV) : Way :=
 match a with
 | .val false [.mel id g k key off] => (match tab t with
  | some i => { rd := [id], run := fun H => match H id with
   | .live (.mapb g' k' (.ptr e) m none) => (match Nat.beq g g', castTo k k' key with
    | true, some key => (match takeN i.ty.cells ((flat e (boxOf k' e key m)).drop off) with
     | some ns => if ns.all pureL then .ret (.val i.agg ns, []) else .fail
     | none => .fail)
    | _, _ => .fail)
   | _ => .fail }
  | none => .fail)
 | a => wLoad tab t a
def wFieldAddrB (s : Nat) (a : AV) (f : Nat) : Way :=
 match a with
 | .val false [.mel id g k key off] => (match fieldOff tab s f with
  | some o => { rd := [id], run := fun H => match H id with
   | .live (.mapb g' k' (.ptr _) _ none) => (match Nat.beq g g', decide (k = k') with
    | true, true => .ret (.val false [.mel id g k key (off + o)], [])
    | _, _ => .fail)
   | _ => .fail }
  | none => .fail)
 | a => wFieldAddr tab s a f
def wNilCheckB (a : AV) : Way :=
 match a with
 | .val false [.mel id g k key off] => { rd := [id], run := fun H => match H id with
  | .live (.mapb g' k' (.ptr _) _ none) => (match Nat.beq g g', decide (k = k') with
   | true, true => .ret (.val false [.mel id g k key off], [])
   | _, _ => .fail)
  | _ => .fail }
 | a => wNilCheck a
def wConvertB (s d : Nat) (x : AV) : Way :=
 match x with
 | .val false [.row id] => (match Nat.beq s d, slTy tab s with
  | true, some q => { wr := [id], run := fun H => match q.agg, q.ty, H id with
   | false, .int .u8, .live (.row (.int .u8) xs) => .chk (¬ xs.length = 0) inferInstance (.ret (.val false [.v (.sl (.int .u8)) xs], [(id, .dead)]))
   | _, _, _ => .fail }
  | _, _ => .fail)
 | x => wConvert tab s d x
def ptrTy (t : Nat) : Bool := match tab t with
 | some i => (match i.agg, i.ty with | false, .ptr _ => true | _, _ => false)
 | none => false
def wBinB (op : BinOp) (t : Nat) (x y : AV) : Way :=
 match x, y with
 | .val false [.nilp], .val false [.nilp] => (match ptrTy tab t, op with
  | true, .eql => .one (.v .bool true)
  | true, .neq => .one (.v .bool false)
  | _, _ => .fail)
 | .val false [.mel id g k key off], .val false [.nilp] => { rd := [id], run := fun H => match H id with
  | .live (.mapb g' k' (.ptr _) _ none) => (match Nat.beq g g', decide (k = k'), ptrTy tab t, op with
   | true, true, true, .eql => .ret (.val false [.v .bool false], [])
   | true, true, true, .neq => .ret (.val false [.v .bool true], [])
   | _, _, _, _ => .fail)
  | _ => .fail }
 | x, y => wBin tab op t x y
def wBinN (op : BinOp) (t : Nat) (X : AV) (y : Operand) (Y : AV) : Way :=
 match X, y with
 | .val false [.v (.nsl _) xs], .const (.slice none 0 0) => (match slTy tab t, op with
  | some _, .eql => .one (.v .bool xs.isEmpty)
  | some _, .neq => .one (.v .bool (!xs.isEmpty))
  | _, _ => .fail)
 | X, _ => wBinB tab op t X Y
def unpin : AV → AV
 | .val false [.pptr id off _] => .val false [.ptr id off]
 | v => v
def pinAt (off : Nat) : List (Nat × Nat × Bool) → Option (Nat × Bool)
 | [] => none
 | q :: ps => match Nat.beq q.1 off with | true => some q.2 | false => pinAt off ps
def mapTB (t : Nat) : Bool := match tab t with
 | some i => (match i.agg, i.ty with | false, .map _ _ => true | _, _ => false)
 | none => false
def wLoadP (dst : Option Nat) (t : Nat) (a : AV) : Way :=
 match a, dst, mapTB tab t with
 | .val false [.pptr id off ps], _, true => (match pinAt off ps with
  | some (m, b) => { rd := [id], run := fun H => match H id with
   | .live (.cells _ ls) => (match ls[off]? with
    | some .cst => .ret (.val false [match b with | true => .mbr m | false => .mapr m], [])
    | _ => .fail)
   | _ => .fail }
  | none => .fail)
 | .val false [.pptr id off _], _, false => wLoadB tab t (.val false [.ptr id off])
 | .val false [.ptr id off], some dd, true => let d := 500000 + dd
  { wr := [id, d], run := fun H => match H id with
   | .live (.cells g ls) => (match ls[off]? with
    | some (.v (.map k e) mm) => if isAbsent (H d) && !(Nat.beq id d) then .ret (.val false [.mfl d id (g + 2) off], [(d, .live (.mapo k e mm)), (id, .live (.cells (g + 2) (ls.set off .junk)))]) else .fail
    | some (.v (.fmap k e) mm) => .ret (.val false [.v (.fmap k e) mm], [])
    | _ => .fail)
   | _ => .fail }
 | a, _, _ => wLoadB tab t a
def wFieldAddrP (s : Nat) (a : AV) (f : Nat) : Way :=
 match a with
 | .val false [.pptr id off ps] => (match fieldOff tab s f with
  | some o => { rd := [id], run := fun H => match H id with
   | .live (.cells _ _) => .ret (.val false [.pptr id (off + o) ps], [])
   | _ => .fail }
  | none => .fail)
 | a => wFieldAddrB tab s a f
def wNilCheckP (a : AV) : Way :=
 match a with
 | .val false [.pptr id off ps] => { rd := [id], run := fun H => match H id with
  | .live (.cells _ _) => .ret (.val false [.pptr id off ps], [])
  | _ => .fail }
 | a => wNilCheckB a
def wLoadR (dst : Option Nat) (t : Nat) (a : AV) : Way :=
 match a with
 | .val false [.rel id n off] => (match tab t with
  | some i => { rd := [id], run := fun H => match H id with
   | .live (.row e xs) => (match takeN i.ty.cells ((flat e (xs.getD n e.dflt)).drop off) with
    | some ns => if ns.all pureL then .ret (.val i.agg ns, []) else .fail
    | none => .fail)
   | _ => .fail }
  | none => .fail)
 | a => wLoadP tab dst t a
def wMapUpdateP (t : Nat) (a k x : AV) : Way :=
 match a with
 | .val false [.mfl m id g0 off] =>
  let core := wMapUpdateB tab t (.val false [.mapr m]) k x
  { wr := id :: m :: (core.rd ++ core.wr), run := fun H => match H id with
   | .live (.cells g ls) => (match Nat.beq g g0, Nat.blt off ls.length, memN id (m :: (core.rd ++ core.wr)) with
    | true, true, false => (core.run (only H (core.rd ++ core.wr))).bind fun r =>
     (match putH H r.2 m, r.2.all fun p => memN p.1 core.wr with
     | .live (.mapo k e mm), true => .ret (r.1, r.2 ++ [(m, .dead), (id, .live (.cells (g + 2) (ls.set off (.v (.map k e) mm))))])
     | _, _ => .fail)
    | _, _, _ => .fail)
   | _ => .fail }
 | .val false [.mapr id] => (match k with
  | .val true _ => wMapUpdateA tab t a k x
  | _ => wMapUpdateB tab t a k x)
 | a => wMapUpdateB tab t a k x
def wRangeP (dst : Option Nat) (t : Nat) (a : AV) : Way :=
 match a with
 | .val false [.mfl m id g0 off] =>
  let core := wRange tab dst t (.val false [.mapr m])
  { wr := id :: m :: (core.rd ++ core.wr), run := fun H => match H id with
   | .live (.cells g ls) => (match Nat.beq g g0, ls[off]?, memN id (m :: (core.rd ++ core.wr)) with
    | true, some .junk, false => (core.run (only H (core.rd ++ core.wr))).bind fun r =>
     (match putH H r.2 m, r.2.all fun p => memN p.1 core.wr with
     | .frzm k e mm, true => .ret (r.1, r.2 ++ [(id, .live (.cells (g + 2) (ls.set off (.v (.fmap k e) mm))))])
     | _, _ => .fail)
    | _, _, _ => .fail)
   | _ => .fail }
 | a => wRange tab dst t a
def wLookupP (t : Nat) (a k : AV) (ok : Bool) : Way :=
 match a with
 | .val false [.mfl m _ _ _] => wLookupB tab t (.val false [.mapr m]) k ok
 | a => wLookupB tab t a k ok
def psPins : List (Nat × AV) → List (Nat × Nat × Bool)
 | [] => []
 | (_, .val _ ls) :: ps => pinsOf 0 ls ++ psPins ps
 | _ :: ps => psPins ps
def wBuildP (t : Nat) (ps : List (Nat × AV)) : Way :=
 match tab t with
 | some i => (match i.fields, psPins ps with
  | [], _ => wBuildA tab t ps
  | _, [] => wBuild tab t ps
  | _, _ => if i.agg && !i.fields.isEmpty then { rd := (psPins ps).map (·.2.1), run := fun H => if (psPins ps).all (pinLive H) then (match buildLs tab pinB i.fields i.zero ps with | some ls => .ret (.val true ls, []) | none => .fail) else .fail } else .fail)
 | none => .fail
def wAlloc (dst : Option Nat) (t : Nat) : Way :=
 match tab t with
 | some i => (match Nat.beq i.key 7777, i.agg, i.zero, dst with
  | true, true, [.nilp, .nils], some d => { wr := [d], run := fun H => if isAbsent (H d) then .ret (.val false [.itr d], [(d, .live (sbO t i.elem []))]) else .fail }
  | _, _, _, _ => wBox dst (.val true i.zero))
 | none => .fail
def way (E : Env) (o : Oper) : Way :=
 match o.op with
 | .move x => .val (evalO E x)
 | .assign x => .val (evalO E x)
 | .pick c a b => wPick (evalO E c) (evalO E a) (evalO E b)
 | .nilCheck x => wNilCheckP (evalO E x)
 | .alloc t => wAlloc tab o.dst t
 | .box _ x => wBoxP o.dst (evalO E x)
 | .build t ps => wBuildP tab t (ps.toList.map fun p => (p.1, evalO E p.2))
 | .buildSlice t n ps => wBuildSliceF tab o.dst t n (ps.toList.map fun p => (p.1, evalO E p.2))
 | .load t a => wLoadR tab o.dst t (evalO E a)
 | .store t a x => wStoreF tab t (unpin (evalO E a)) (evalO E x)
 | .binOp op t x y _ => wBinN tab op t (evalO E x) y (evalO E y)
 | .unOp op _ x => wUn op (evalO E x)
 | .convert s d x => wConvertB tab s d (evalO E x)
 | .makeSlice t l c => wMakeSlice tab o.dst t (evalO E l) (evalO E c)
 | .slice t x lo hi none => wSlice tab o.dst t (evalO E x) (lo.map (evalO E)) (hi.map (evalO E))
 | .fieldAddr s x f => wFieldAddrP tab s (evalO E x) f
 | .field s x f => wField tab s (evalO E x) f
 | .indexAddr t x i => wIndexAddr tab t (evalO E x) (evalO E i)
 | .index t x i => wIndex tab t (evalO E x) (evalO E i)
 | .extract t n => wExtract (evalO E t) n
 | .call c => wCall tab T o.dst c (c.args.toList.map (evalO E)) (match c.callee with | .value f => some (evalO E f) | _ => none)
 | .makeMap t none => wMakeMapB tab o.dst t
 | .mapUpdate t m k x => wMapUpdateP tab t (evalO E m) (evalO E k) (evalO E x)
 | .insert t m k x => wMapUpdateP tab t (evalO E m) (evalO E k) (evalO E x)
 | .lookup t m k ok => wLookupP tab t (evalO E m) (evalO E k) ok
 | .makeFunc fn fs cs => wMakeFunc fn (fs.toList.map (evalO E)) (cs.toList.map (evalO E))
 | .range t x => wRangeP tab o.dst t (evalO E x)
 | .entry x => wEntry (evalO E x)
 | _ => .fail

def bLV (b : Bool) : AV := .val false [.v .bool b]
def nilWay (t : Nat) (H : Hp) (eq : Bool) : AV → Option (DT (AV × List (Nat × Cell)))
 | .val false [.nils] => (match slTy tab t with | some _ => some (.ret (bLV eq, [])) | none => none)
 | .val false [.v (.nsl _) xs] => (match slTy tab t with | some _ => some (.ret (match eq with | true => bLV xs.isEmpty | false => bLV (!xs.isEmpty), [])) | none => none)
 | .val false [l] => (match slTy tab t, slRead (only H (slRd l)) l with
  | some _, some ⟨_, xs⟩ => some (.may (xs.length = 0) inferInstance (.ret (bLV eq, [])) (.ret (bLV (!eq), [])))
  | _, _ => none)
 | _ => none
def nextWay (H : Hp) : AV → Option (DT (AV × List (Nat × Cell)))
 | .val false [.itr id] => (match H id with
  | .live (.iter k e _ rest) => match k.isFn with | true => none | false => some (.each rest (.ret (.tup [(false, [.v .bool false])], [])) fun p r => .ret (.tup [(false, [.v .bool true]), (!k.one, flat k p.1), (!e.one, flat e p.2)], [(id, .live (.iter k e (some p) r))]))
  | _ => none)
 | _ => none
def wayD (E : Env) (H : Hp) (o : Oper) : Option (DT (AV × List (Nat × Cell))) :=
 match o.guard with
 | some _ => none
 | none => (match o.op with
  | .binOp .eql t x (.const (.slice none 0 0)) _ => nilWay tab t H true (evalO E x)
  | .binOp .neq t x (.const (.slice none 0 0)) _ => nilWay tab t H false (evalO E x)
  | .next x false => nextWay H (evalO E x)
  | _ => none)
def putE (E : Env) (dst : Option Nat) (v : AV) : Env := match dst with | some d => upd E d v | none => E
def stepT (E : Env) (H : Hp) (o : Oper) : Tst (Env × Hp) :=
 let w := way tab T E o
 (w.run (only H (w.rd ++ w.wr))).bind fun r => match r.2.all fun p => memN p.1 w.wr with
  | true => .ret (putE E o.dst r.1, putH H r.2)
  | false => .fail

inductive Gd where
 | yes | no | ask (s : Nat) (b want : Bool) | bad
def guardOf (ops : Array Oper) (E : Env) (o : Oper) : Gd :=
 match o.guard with
 | none => .yes
 | some (j, want) => match ops[j]? with
  | some oj => (match oj.dst with
   | some s => (match E s with
    | .undef => .no
    | .val false [.v .bool b] => .ask s b want
    | _ => .bad)
   | none => .bad)
  | none => .bad
def stepG (ops : Array Oper) (E : Env) (H : Hp) (o : Oper) : Tst (Env × Hp) :=
 match guardOf ops E o with
 | .yes => stepT tab T E H o
 | .no => .ret (putE E o.dst .undef, H)
 | .ask s b true => .br b (stepT tab T (upd E s (bLV true)) H o) (.ret (putE (upd E s (bLV false)) o.dst .undef, H))
 | .ask s b false => .br b (.ret (putE (upd E s (bLV true)) o.dst .undef, H)) (stepT tab T (upd E s (bLV false)) H o)
 | .bad => .fail

abbrev Fp := List Nat × List Nat
def fpOf (ops : Array Oper) (E : Env) (o : Oper) : Fp := ((way tab T E o).rd, (way tab T E o).wr)
def disj (a b : List Nat) : Bool := a.all fun n => !memN n b
def apartFp (a b : Fp) : Bool := disj a.2 (b.1 ++ b.2) && disj b.2 (a.1 ++ a.2)
def fpsOk (ops : Array Oper) (fps : List Fp) : Bool :=
 let b := Region.before ops
 fps.zipIdx.all fun x => (fps.take x.2).zipIdx.all fun y => (b.getD x.2 0).testBit y.2 || apartFp x.1 y.1

variable {R : Type}
noncomputable def runOps (ops : Array Oper) : List Oper → Env → Hp → (Env → Hp → Option R) → Option R
 | [], E, H, K => K E H
 | o :: l, E, H, K => match wayD tab E H o with
  | none => (stepG tab T ops E H o).to fun r => runOps ops l r.1 r.2 K
  | some t => t.to fun r => runOps ops l (putE E o.dst r.1) (putH H r.2) K
def runOpsD (ops : Array Oper) : List Oper → Env → Hp → List Fp → (Env → Hp → Option R) → Option R
 | [], E, H, fps, K => match fpsOk ops fps with | true => K E H | false => none
 | o :: l, E, H, fps, K => (stepG tab T ops E H o).to fun r => runOpsD ops l r.1 r.2 (fps ++ [fpOf tab T ops E o]) K

inductive Keep where
 | slot (t : Nat)
 | vec (t : Nat) (e : Ty)
 | lit (t : Nat) (e : Ty)
 | obj (t : Nat) (τ : Ty)
 | same (t u : Nat)
 | view (t u : Nat)
 | rows (t : Nat)
 | nlit (t : Nat) (e : Ty)
 | pobj (t : Nat) (ts : List Ty) (us : List Nat)
 | clo (t u : Nat)
def headId (t : Nat) : Nat := 1000000 + t
def bare : LV → LV
 | .v τ x => .v τ x
 | .nils => .nils
 | .nilm => .nilm
 | .nilp => .nilp
 | .vw e xs => .v (.sl e) xs
 | .pel τ x off => .pel τ x off
 | _ => .junk
def Keep.tmp : Keep → Nat
 | .slot t => t
 | .vec t _ => t
 | .lit t _ => t
 | .obj t _ => t
 | .same t _ => t
 | .view t _ => t
 | .rows t => t
 | .nlit t _ => t
 | .pobj t _ _ => t
 | .clo t _ => t
def sameAV (H : Hp) : AV → AV → Bool
 | .val false [.row a], .val false [.row b] => Nat.beq a b && (match H a with | .live (.row _ _) => true | .frz _ _ => true | _ => false)
 | .val false [.mapr a], .val false [.mapr b] => Nat.beq a b && (match H a with | .live (.mapo _ _ _) => true | .frzm _ _ _ => true | _ => false)
 | .val false [.ptr a o], .val false [.ptr b o'] => Nat.beq a b && Nat.beq o o' && (match H a with | .live (.cells _ _) => true | _ => false)
 | _, _ => false
def viewAV (H H' : Hp) (h : Nat) : AV → AV → AV → Option AV
 | .val false [.subv id g off lo sz], .val false [.ptr id' p], .val false [.ptr k p'] => match H id, H' h with
  | .live (.cells g' ls), .live (.cells g2 _) => (match Nat.beq id id' && Nat.beq g g' && Nat.beq k h && Nat.beq p p', ls[off]? with
   | true, some (.v (.vec _) _) => some (.val false [.subv h g2 off lo sz])
   | _, _ => none)
  | _, _ => none
 | _, _, _ => none
def isIter : Cell → Bool
 | .live (.iter _ _ _ _) => true
 | _ => false
def liveOf (H : Hp) : AV → Bool
 | .val false [.itr id] => isIter (H id)
 | .val false [.ptr id _] => liveCells (H id)
 | _ => false
def cloAV : AV → AV → AV → Option AV
 | .val false [.cloi f b id], .val false [.itr id'], .val false [.itr k] => (match Nat.beq id id' with | true => some (.val false [.cloi f b k]) | false => none)
 | .val false [.clo f b id], .val false [.ptr id' 0], .val false [.ptr k 0] => (match Nat.beq id id' with | true => some (.val false [.clo f b k]) | false => none)
 | _, _, _ => none
def keep1 (E : Env) (H : Hp) : Keep → Option (AV × Option Cell × Option Nat)
 | .slot t => match E t with
  | .val false [.mapr id] => (match H id with
   | .live (.mapo k e m) => some (.val false [.mapr (headId t)], some (.live (.mapo k e m)), some id)
   | .frzm k e m => some (.val false [.v (.fmap k e) m], none, none)
   | _ => none)
  | .val false [.itr id] => (match H id with
   | .live (.iter k e c r) => some (.val false [.itr (headId t)], some (.live (.iter k e c r)), some id)
   | _ => none)
  | .val false [.mbr id] => (match H id with
   | .live (.mapb _ k e m none) => some (.val false [.mbr (headId t)], some (.live (.mapb 0 k e m none)), some id)
   | _ => none)
  | .val g ls => some (.val g (ls.map bare), none, none)
  | _ => none
 | .vec t e => match E t with
  | .val false [.row id] => (match H id with
   | .live (.row e' xs) => some (.val false [.row (headId t)], some (.live (.row e' xs)), some id)
   | _ => none)
  | .val false [.nils] => some (.val false [.row (headId t)], some (.live (.row e [])), none)
  | _ => none
 | .lit t e => match E t with
  | .val false [.nils] => some (.val false [.v (.sl e) []], none, none)
  | .val false [.v (.sl e') xs] => some (.val false [.v (.sl e') xs], none, none)
  | .val false [.vw e' xs] => some (.val false [.v (.sl e') xs], none, none)
  | .val false [.row id] => (match H id with
   | .live (.row e' xs) => (match e'.pure with | true => some (.val false [.v (.sl e') xs], none, some id) | false => none)
   | .frz e' xs => some (.val false [.v (.sl e') xs], none, none)
   | _ => none)
  | _ => none
 | .obj t τ => match E t with
  | .val false [.ptr id off] => (match H id with
   | .live (.cells g ls) => (match asmAll (fun _ => .absent) τ ls with
    | some x => some (.val false [.ptr (headId t) off], some (.live (.cells (g % 2) (flat τ x))), some id)
    | none => none)
   | _ => none)
  | .val false [.clo f b id] => (match H id with
   | .live (.cells g ls) => (match asmAll (fun _ => .absent) τ ls with
    | some x => some (.val false [.clo f b (headId t)], some (.live (.cells (g % 2) (flat τ x))), some id)
    | none => none)
   | _ => none)
  | _ => none
 | .same _ _ => none
 | .view _ _ => none
 | .rows t => match E t with
  | .val false [.mbr id] => (match H id with
   | .live (.mapb _ k (.vec e) m none) => (match e.pure with | true => some (.val false [.v (.fmap k (.sl e)) m], none, some id) | false => none)
   | _ => none)
  | .val g ls => some (.val g (ls.map bare), none, none)
  | _ => none
 | .nlit t e => match E t with
  | .val false [.nils] => some (.val false [.v (.nsl e) []], none, none)
  | .val false [.v (.nsl e') xs] => some (.val false [.v (.nsl e') xs], none, none)
  | _ => none
 | .pobj _ _ _ => none
 | .clo _ _ => none
def pinTo (H : Hp) (m : Nat) (b : Bool) : AV → AV → Option Nat
 | .val false [.mapr a], .val false [.mapr c] => (match b, Nat.beq a m, H a with | false, true, .live (.mapo _ _ _) => some c | _, _, _ => none)
 | .val false [.mbr a], .val false [.mbr c] => (match b, Nat.beq a m, H a with | true, true, .live (.mapb _ _ _ _ _) => some c | _, _, _ => none)
 | _, _ => none
def pinNew (E E' : Env) (H : Hp) (m : Nat) (b : Bool) : List Nat → Option Nat
 | [] => none
 | u :: us => match pinTo H m b (E u) (E' u) with | some c => some c | none => pinNew E E' H m b us
def pinsNew (E E' : Env) (H : Hp) (us : List Nat) : List (Nat × Nat × Bool) → List (Nat × Nat × Bool)
 | [] => []
 | q :: ps => match pinNew E E' H q.2.1 q.2.2 us with | some c => (q.1, c, q.2.2) :: pinsNew E E' H us ps | none => pinsNew E E' H us ps
def normL : Ty → LV → LV
 | .vec e, .nils => .v (.vec e) []
 | .sl e, .nils => .v (.sl e) []
 | _, l => l
def normAll : List Ty → List LV → List LV
 | t :: ts, l :: ls => normL t l :: normAll ts ls
 | _, ls => ls
def keepP (E E' : Env) (H : Hp) (t : Nat) (ts : List Ty) (us : List Nat) : Option (AV × Cell × Nat) := match E t with
 | .val false [.pptr id off ps] => (match H id with
  | .live (.cells g ls) => (match ls.all plainC && Nat.beq (g % 2) 0 with
   | true => some (.val false [.pptr (headId t) off (pinsNew E E' H us ps)], .live (.cells 0 (normAll ts ls)), id)
   | false => none)
  | _ => none)
 | _ => none
def keepE (E : Env) (H : Hp) : List Keep → Option (List (Nat × AV) × List (Nat × Cell) × List Nat)
 | [] => some ([], [], [])
 | k :: l => match keepE E H l with
  | some (es, hs, ids) => (match memN k.tmp (es.map (·.1)) with
   | true => none
   | false => (match k with
    | .same t u => (match sameAV H (E t) (E u) with | true => some ((t, ofL .junk es u) :: es, hs, ids) | false => none)
    | .pobj t ts us => (match keepP E (ofL .junk es) H t ts us with
     | some (v, c, id) => (match memN id ids with
      | true => none
      | false => some ((t, v) :: es, (headId t, c) :: hs, id :: ids))
     | none => none)
    | .view t u => (match viewAV H (ofL .absent hs) (headId u) (E t) (E u) (ofL .junk es u) with | some v => some ((t, v) :: es, hs, ids) | none => none)
    | .clo t u => (match liveOf H (E u), cloAV (E t) (E u) (ofL .junk es u) with | true, some v => some ((t, v) :: es, hs, ids) | _, _ => none)
    | k => (match keep1 E H k with
     | some (v, none, none) => some ((k.tmp, v) :: es, hs, ids)
     | some (v, some c, none) => some ((k.tmp, v) :: es, (headId k.tmp, c) :: hs, ids)
     | some (v, c, some id) => (match memN id ids with
      | true => none
      | false => (match c with
       | some c => some ((k.tmp, v) :: es, (headId k.tmp, c) :: hs, id :: ids)
       | none => some ((k.tmp, v) :: es, hs, id :: ids)))
     | none => none)))
  | none => none

def headOf : Code → Nat
 | .region id _ _ => id
 | .seq a _ => headOf a
 | .block _ b => headOf b
 | .scope b => headOf b
 | .cond _ a _ => 2000000 + headOf a
 | _ => 999999

inductive Fr where
 | seqR (b : Code)
 | blk (id : Nat)
 | loopF (b : Code)
abbrev Kont (R : Type) := Exit → Env → Hp → Option R
abbrev Low (R : Type) := Code → List Fr → Env → Hp → Option R
noncomputable def atCut (L : Low R) (ks : List Keep) (c : Code) (fs : List Fr) (E : Env) (H : Hp) : Option R :=
 match keepE E H ks with
 | some (es, hs, _) => L c fs (ofL .junk es) (ofL .absent hs)
 | none => none
def condOf (E : Env) (c : Operand) : Option (Option Nat × Bool) :=
 match evalO E c with
 | .val false [.v .bool b] => some ((match c with | .tmp t => some t | _ => none), b)
 | _ => none
def noDst (t u : Nat) (ops : Array Oper) : Bool := ops.toList.all fun o => match o.dst with | some d => !(Nat.beq d t) && !(Nat.beq d u) | none => true
def endE (u id : Nat) (E : Env) : Env := fun k => match Nat.beq k u with
 | true => .val false [.ptr id 0]
 | false => (match flatAV (E k) with | true => E k | false => .junk)
def brk (t u : Nat) (ops : Array Oper) (E : Env) (H : Hp) (run : Env → Hp → (Env → Hp → Option R) → Option R) (K : Env → Hp → Option R) : Option R :=
 match E t, E u with
 | .val false [.sel id g o i 0], .val false [.ptr id' 0] => (match H id with
  | .live (.cells g' ls) => (match ls[o]? with
   | some (.v (.vec e) xs) => (match Nat.beq id id' && Nat.beq g g' && isAbsent (H (700000 + t)) && noDst t u ops with
    | true => run (upd E t (.val false [.ptr (700000 + t) 0])) (upd (upd H (700000 + t) (.live (.cells 1 (flat e (xs.getD i e.dflt))))) id .dead) fun E2 H2 =>
     (match E2 t, H2 (700000 + t), H2 id with
     | .val false [.ptr d 0], .live (.cells gg ls'), .dead => (match Nat.beq d (700000 + t) && Nat.beq (gg % 2) 1, asmAll (fun _ => .absent) e ls' with
      | true, some y => K (endE u id E2) (upd (upd H2 (700000 + t) .dead) id (.live (.cells (g + 2) (ls.set o (.v (.vec e) (xs.set i y))))))
      | _, _ => none)
     | _, _, _ => none)
    | false => none)
   | _ => none)
  | _ => none)
 | _, _ => none
noncomputable def runS (ann : Nat → Option (List Keep)) (L : Low R) : Code → List Fr → Env → Hp → Kont R → Option R
 | .skip, _, E, H, K => K .normal E H
 | .region rid ops false, _, E, H, K => (match ann (5000000 + rid) with
  | some [.view t u] => brk t u ops E H (fun E H K => runOps tab T ops ops.toList E H K) (K .normal)
  | _ => runOps tab T ops ops.toList E H (K .normal))
 | .region rid ops true, _, E, H, K => (match Region.lexB .any ops with
  | true => (match ann (5000000 + rid) with
   | some [.view t u] => brk t u ops E H (fun E H K => runOpsD tab T ops ops.toList E H [] K) (K .normal)
   | _ => runOpsD tab T ops ops.toList E H [] (K .normal))
  | false => none)
 | .seq a b, fs, E, H, K => runS ann L a (.seqR b :: fs) E H fun
  | .normal, E, H => (match ann (headOf b) with
   | some ks => atCut L ks b fs E H
   | none => runS ann L b fs E H K)
  | x, E, H => K x E H
 | .cond c a b, fs, E, H, K => match condOf E c with
  | some (some t, x) => if x = true then runS ann L a fs (upd E t (bLV true)) H K else runS ann L b fs (upd E t (bLV false)) H K
  | some (none, x) => if x = true then runS ann L a fs E H K else runS ann L b fs E H K
  | none => none
 | .block id b, fs, E, H, K => runS ann L b (.blk id :: fs) E H fun
  | .exit i, E, H => (match Nat.beq i id with | true => K .normal E H | false => K (.exit i) E H)
  | x, E, H => K x E H
 | .loop b, fs, E, H, _ => match ann (headOf b) with
  | some ks => atCut L ks (.loop b) fs E H
  | none => none
 | .exit id, _, E, H, K => K (.exit id) E H
 | .ret, _, E, H, K => K .ret E H
 | _, _, _, _, _ => none
noncomputable def clos (ann : Nat → Option (List Keep)) (L : Low R) (fin : Kont R) : List Fr → Kont R
 | [] => fin
 | .seqR b :: fs => fun
  | .normal, E, H => (match ann (headOf b) with
   | some ks => atCut L ks b fs E H
   | none => runS tab T ann L b fs E H (clos ann L fin fs))
  | x, E, H => clos ann L fin fs x E H
 | .blk id :: fs => fun
  | .exit i, E, H => (match Nat.beq i id with | true => clos ann L fin fs .normal E H | false => clos ann L fin fs (.exit i) E H)
  | x, E, H => clos ann L fin fs x E H
 | .loopF b :: fs => fun
  | .normal, E, H => (match ann (headOf b) with
   | some ks => atCut L ks (.loop b) fs E H
   | none => none)
  | x, E, H => clos ann L fin fs x E H
end

noncomputable def runN {R : Type} (tab : Nat → Option TI) (T : Nat → Nat → Option FunE) (ann : Nat → Option (List Keep)) (fin : Kont R) : Nat → Low R
 | 0 => fun _ _ _ _ => none
 | n + 1 => fun c fs E H => match c with
  | .loop b => runS tab (T n) ann (runN tab T ann fin n) b (.loopF b :: fs) E H (clos tab (T n) ann (runN tab T ann fin n) fin (.loopF b :: fs))
  | c => runS tab (T n) ann (runN tab T ann fin n) c fs E H (clos tab (T n) ann (runN tab T ann fin n) fin fs)

def node : Code → List Fr → List Nat → Code × List Fr
 | c, fs, [] => (c, fs)
 | .seq a b, fs, 0 :: p => node a (.seqR b :: fs) p
 | .seq _ b, fs, _ :: p => node b fs p
 | .cond _ a _, fs, 0 :: p => node a fs p
 | .cond _ _ b, fs, _ :: p => node b fs p
 | .block id b, fs, _ :: p => node b (.blk id :: fs) p
 | .loop b, fs, _ :: p => node b (.loopF b :: fs) p
 | c, fs, _ => (c, fs)

def resVal (tab : Nat → Option TI) (H : Hp) (E : Env) : ResultVar → Option (Bool × List LV)
 | .tmp t => match unpin (E t) with | .val g ls => some (g, ls) | _ => none
 | .cell a t => match tab t, E a with
  | some i, .val false [.ptr id 0] => (match H id with | .live (.cells g ls) => (match Nat.beq ls.length i.ty.cells with | true => some (i.agg, outLeaves id g 0 ls) | false => none) | _ => none)
  | _, _ => none
def resVals (tab : Nat → Option TI) (H : Hp) (E : Env) : List ResultVar → Option (List (Bool × List LV))
 | [] => some []
 | v :: vs => match resVal tab H E v, resVals tab H E vs with | some r, some rs => some (r :: rs) | _, _ => none
def resOne (H : Hp) (τ : Ty) (g : Bool) (ls : List LV) : Option τ.den :=
 match τ, g, ls with
 | .nsl e, false, [.row id] => (match H id with | .live (.row e' xs) => slAs e' e xs | _ => none)
 | .ptr e, false, [.ptr id 0] => (match H id with | .live (.cells g ls) => (match asmAll (fun _ => .absent) e ls, Nat.beq (g % 2) 0 with | some y, true => some (some y) | _, _ => none) | _ => none)
 | .ptr _, false, [.nilp] => some none
 | τ, g, ls => ownIn H τ g ls
def nnCell : Cell → Bool
 | .live (.row _ xs) => !xs.isEmpty
 | _ => false
def nnB (H : Hp) : List Ty → List (Bool × List LV) → Bool
 | .nsl _ :: outs, (_, [.row id]) :: rs => nnB H outs rs && nnCell (H id)
 | _ :: outs, _ :: rs => nnB H outs rs
 | _, _ => true
def resIn (H : Hp) : (outs : List Ty) → List (Bool × List LV) → Option (outs.foldr Ty.pair .unit).den
 | [], [] => some ()
 | τ :: outs, v :: vs => (match resOne H τ v.1 v.2, resIn H outs vs with
  | some x, some xs => some (x, xs)
  | _, _ => none)
 | _, _ => none
def resOwns : List Ty → List (Bool × List LV) → List Nat
 | τ :: outs, v :: vs => ownArg false τ (.val v.1 v.2) ++ resOwns outs vs
 | _, _ => []
def resRds : List Ty → List (Bool × List LV) → List Nat
 | τ :: outs, v :: vs => argRd false τ (.val v.1 v.2) ++ resRds outs vs
 | _, _ => []
def ioOut (H : Hp) : (ts : List Ty) → List Nat → Option (ts.foldr Ty.pair .unit).den
 | [], [] => some ()
 | τ :: ts, id :: ids => (match H id, ioOut H ts ids with
  | .live (.cells g ls), some xs => (match asmAll (fun _ => .absent) τ ls, Nat.beq (g % 2) 1 with | some x, true => some (x, xs) | _, _ => none)
  | _, _ => none)
 | _, _ => none
def joinRes : (outs more : List Ty) → (outs.foldr Ty.pair .unit).den → (more.foldr Ty.pair .unit).den → ((outs ++ more).foldr Ty.pair .unit).den
 | [], _, _, y => y
 | _ :: outs, more, x, y => (x.1, joinRes outs more x.2 y)
def ioIdsOf (E : Env) : List Nat → List Ty → Option (List Nat)
 | [], [] => some []
 | t :: ts, τ :: τs => (match ioId τ (E t), ioIdsOf E ts τs with | some id, some ids => some (id :: ids) | _, _ => none)
 | _, _ => none
def leafTys : Ty → List Ty
 | .pair a b => leafTys a ++ leafTys b
 | .unit => []
 | τ => [τ]
def pack1 (H : Hp) (id off m : Nat) (b : Bool) (τ : Ty) : Hp := match H id with
 | .live (.cells g ls) => (match ls[off]?, τ, H m, b with
  | some .cst, .map _ _, .live (.mapo k' e' mm), false => if id ≠ m then upd (upd H m .dead) id (.live (.cells (g + 2) (ls.set off (.v (.map k' e') mm)))) else H
  | some .cst, .fmap _ _, .live (.mapo k' e' mm), false => if id ≠ m then upd (upd H m .dead) id (.live (.cells (g + 2) (ls.set off (.v (.fmap k' e') mm)))) else H
  | some .cst, .fmap _ _, .live (.mapb _ k' (.vec e') mm none), true => if e'.pure = true ∧ id ≠ m then upd (upd H m .dead) id (.live (.cells (g + 2) (ls.set off (.v (.fmap k' (.sl e')) mm)))) else H
  | _, _, _, _ => H)
 | _ => H
def packs (id : Nat) (ts : List Ty) : Hp → List (Nat × Nat × Bool) → Hp
 | H, [] => H
 | H, q :: ps => packs id ts (pack1 H id q.1 q.2.1 q.2.2 (ts.getD q.1 .unit)) ps
def packR (E : Env) : List Ty → List ResultVar → Hp → Hp
 | .ptr e :: outs, .tmp t :: vs, H => (match E t with
  | .val false [.pptr id 0 ps] => packR E outs vs (packs id (leafTys e) H ps)
  | _ => packR E outs vs H)
 | _ :: outs, _ :: vs, H => packR E outs vs H
 | _, _, H => H
def finOf (tab : Nat → Option TI) (outs mores : List Ty) (vs : List ResultVar) (slots : List Nat) : Kont ((outs ++ mores).foldr Ty.pair .unit).den := fun x E H0 =>
 let H := packR E outs vs H0
 match x with
 | .normal | .ret => (match resVals tab H E vs, ioIdsOf E slots mores with
  | some rs, some ios => (match resIn H outs rs, ioOut H mores ios with
   | some a, some b => (match nodupN (resOwns outs rs ++ ios) && (resRds outs rs).all fun i => !memN i (resOwns outs rs ++ ios) with
    | true => if nnB H outs rs = true then some (joinRes outs mores a b) else none
    | false => none)
   | _, _ => none)
  | _, _ => none)
 | _ => none
def parAV (t : Nat) (io : Bool) : (τ : Ty) → τ.den → AV × List (Nat × Cell) := fun τ x =>
 match io with
 | true => (ioAV (headId t) τ, [(headId t, .live (.cells 1 (flat τ x)))])
 | false => (match τ, x with
  | .vec e, x => (.val false [.row (headId t)], [(headId t, .live (.row e x))])
  | .pair a b, x => (.val true (flat (.pair a b) x), [])
  | .unit, x => (.val true [], [])
  | τ, x => (.val false (flat τ x), []))
def pars : Nat → (ps : List (Bool × Ty)) → (ps.foldr (fun p t => Ty.pair p.2 t) .unit).den → List (Nat × AV) × List (Nat × Cell)
 | _, [], _ => ([], [])
 | t, p :: ps, x => let r := parAV t p.1 p.2 x.1; let s := pars (t + 1) ps x.2; ((t, r.1) :: s.1, r.2 ++ s.2)
def iosOf : Nat → List (Bool × Ty) → List Nat
 | _, [] => []
 | t, (true, _) :: ps => t :: iosOf (t + 1) ps
 | t, (false, _) :: ps => iosOf (t + 1) ps
def bodyOf (f : Func) : Code := f.body.getD .skip
noncomputable def fnE (tab : Nat → Option TI) (T : Nat → Nat → Option FunE) (ann : Nat → Option (List Keep)) (f : Func) (ins : List (Bool × Ty)) (outs : List Ty) (n : Nat) : FunE where
 ins := ins
 outs := outs
 f := fun x => let q := pars 0 ins x; let fin := finOf tab outs ((ins.filter (·.1)).map (·.2)) f.results.toList (iosOf 0 ins)
  runS tab (T n) ann (runN tab T ann fin n) (bodyOf f) [] (ofL .junk q.1) (ofL .absent q.2) (clos tab (T n) ann (runN tab T ann fin n) fin [])
noncomputable def cutN (tab : Nat → Option TI) (T : Nat → Nat → Option FunE) (ann : Nat → Option (List Keep)) (f : Func) (ins : List (Bool × Ty)) (outs : List Ty) (n : Nat) (p : List Nat) (es : List (Nat × AV)) (hs : List (Nat × Cell)) :
 Option ((outs ++ (ins.filter (·.1)).map (·.2)).foldr Ty.pair .unit).den :=
 runN tab T ann (finOf tab outs ((ins.filter (·.1)).map (·.2)) f.results.toList (iosOf 0 ins)) n (node (bodyOf f) [] p).1 (node (bodyOf f) [] p).2 (ofL .junk es) (ofL .absent hs)

def finSb (t tb eb : Nat) : Kont (List UInt8) := fun x E H => match x with
 | .normal | .ret => (match E t with | .val false [.itr id] => sbGet tb eb (H id) | _ => none)
 | _ => none
noncomputable def sbRun (tab : Nat → Option TI) (T : Nat → Nat → Option FunE) (ann : Nat → Option (List Keep)) (f : Func) (tb eb : Nat) (ins : List (Bool × Ty)) (n : Nat) (x : List UInt8) (xs : (ins.foldr (fun p t => Ty.pair p.2 t) .unit).den) : Option (List UInt8) :=
 runS tab (T n) ann (runN tab T ann (finSb ins.length tb eb) n) (bodyOf f) [] (ofL .junk ((ins.length, .val false [.itr (headId ins.length)]) :: (pars 0 ins xs).1)) (ofL .absent [(headId ins.length, .live (sbO tb eb x))]) (clos tab (T n) ann (runN tab T ann (finSb ins.length tb eb) n) (finSb ins.length tb eb) [])
noncomputable def sbE (tab : Nat → Option TI) (T : Nat → Nat → Option FunE) (ann : Nat → Option (List Keep)) (f : Func) (tb eb : Nat) (ins : List (Bool × Ty)) (n : Nat) : SbRule :=
 { tb := tb, eb := eb, fst := false, ins := ins, res := .none, f := fun x xs => sbRun tab T ann f tb eb ins n x xs }

end Go.Proofs.YtadhpgecilhgnaaDoor.A

-- YtadhpgecilhgnaaDoorT
set_option linter.unusedVariables false
set_option maxRecDepth 100000
namespace Go.Proofs.YtadhpgecilhgnaaDoor.A
open Go
abbrev DModeChange : Type := (List UInt8 × (List UInt8 × List UInt8))
abbrev YModeChange : Ty := (.pair .str (.pair .str .str))
abbrev DAct : Type := (Int × (List UInt8 × Bool))
abbrev YAct : Ty := (.pair (.int .i64) (.pair .str .bool))
abbrev DWatchRule : Type := (List UInt8 × (List UInt8 × (List UInt8 × (Bool × (List DAct)))))
abbrev YWatchRule : Ty := (.pair .str (.pair .str (.pair .str (.pair .bool (.vec YAct)))))
abbrev DWatch : Type := ((List (List UInt8)) × ((List DModeChange) × (List UInt8 × (List DWatchRule))))
abbrev YWatch : Ty := (.pair (.vec .str) (.pair (.vec YModeChange) (.pair .str (.vec YWatchRule))))
abbrev DFWatchRule : Type := (List UInt8 × (List UInt8 × (List UInt8 × (Bool × (List DAct)))))
abbrev YFWatchRule : Ty := (.pair .str (.pair .str (.pair .str (.pair .bool (.sl YAct)))))
abbrev DFWatch : Type := ((List (List UInt8)) × ((List DModeChange) × (List UInt8 × (List DFWatchRule))))
abbrev YFWatch : Ty := (.pair (.sl .str) (.pair (.sl YModeChange) (.pair .str (.sl YFWatchRule))))
abbrev Dreader : Type := (DWatch × Bool)
abbrev Yreader : Ty := (.pair YWatch .bool)
abbrev YLimit : Ty := (.pair .str (.pair (.int .i64) (.pair (.int .i64) (.pair (.int .i64) (.pair (.int .i64) (.pair (.int .i64) (.pair (.int .i64) (.int .i64))))))))
noncomputable def tabL : List (Nat × Option TI) := [
 (3, some { agg := false, ty := (.int .i64), bytes := 8, fields := [], elem := 0, key := 0, zero := [.v (.int .i64) 0] }),
 (4, some { agg := false, ty := .bool, bytes := 1, fields := [], elem := 0, key := 0, zero := [.v .bool false] }),
 (5, some { agg := false, ty := (.int .u8), bytes := 1, fields := [], elem := 0, key := 0, zero := [.v (.int .u8) 0] }),
 (9, some { agg := false, ty := .str, bytes := 16, fields := [], elem := 0, key := 0, zero := [.v .str []] }),
 (22, some { agg := false, ty := (.sl .str), bytes := 24, fields := [], elem := 9, key := 0, zero := [.nils] }),
 (23, some { agg := false, ty := (.sl YModeChange), bytes := 24, fields := [], elem := 48, key := 0, zero := [.nils] }),
 (24, some { agg := false, ty := (.sl YWatchRule), bytes := 24, fields := [], elem := 51, key := 0, zero := [.nils] }),
 (26, some { agg := true, ty := YWatch, bytes := 88, fields := [(0, 22), (1, 23), (2, 9), (3, 24)], elem := 0, key := 0, zero := [.nils, .nils, .v .str [], .nils] }),
 (27, some { agg := false, ty := (.int .i64), bytes := 8, fields := [], elem := 0, key := 0, zero := [.v (.int .i64) 0] }),
 (36, some { agg := false, ty := (.fnv 0), bytes := 8, fields := [], elem := 0, key := 0, zero := [.nilp] }),
 (37, some { agg := false, ty := (.sl (.int .u8)), bytes := 24, fields := [], elem := 5, key := 0, zero := [.nils] }),
 (39, some { agg := true, ty := .pair .nil .nil, bytes := 32, fields := [(0, 36), (1, 37)], elem := 5, key := 7777, zero := [.nilp, .nils] }),
 (48, some { agg := true, ty := YModeChange, bytes := 48, fields := [(0, 9), (1, 9), (2, 9)], elem := 0, key := 0, zero := [.v .str [], .v .str [], .v .str []] }),
 (49, some { agg := false, ty := (.sl YAct), bytes := 24, fields := [], elem := 53, key := 0, zero := [.nils] }),
 (51, some { agg := true, ty := YWatchRule, bytes := 80, fields := [(0, 9), (1, 9), (2, 9), (3, 4), (4, 49)], elem := 0, key := 0, zero := [.v .str [], .v .str [], .v .str [], .v .bool false, .nils] }),
 (53, some { agg := true, ty := YAct, bytes := 32, fields := [(0, 3), (1, 9), (2, 4)], elem := 0, key := 0, zero := [.v (.int .i64) 0, .v .str [], .v .bool false] }),
 (59, some { agg := true, ty := Yreader, bytes := 96, fields := [(0, 26), (4, 4)], elem := 0, key := 0, zero := [.nils, .nils, .v .str [], .nils, .v .bool false] }),
 (66, some { agg := true, ty := YLimit, bytes := 72, fields := [(0, 9), (1, 3), (2, 3), (3, 3), (4, 3), (5, 3), (6, 3), (7, 3)], elem := 0, key := 0, zero := [.v .str [], .v (.int .i64) 0, .v (.int .i64) 0, .v (.int .i64) 0, .v (.int .i64) 0, .v (.int .i64) 0, .v (.int .i64) 0, .v (.int .i64) 0] }),
 (71, some { agg := false, ty := (.map .str .bool), bytes := 8, fields := [], elem := 4, key := 9, zero := [.nilm] }),
 (84, some { agg := false, ty := (.sl YLimit), bytes := 24, fields := [], elem := 66, key := 0, zero := [.nils] }),
 (94, some { agg := false, ty := (.sl (.int .i64)), bytes := 24, fields := [], elem := 27, key := 0, zero := [.nils] }),
 (95, some { agg := false, ty := (.sl (.int .i64)), bytes := 24, fields := [], elem := 3, key := 0, zero := [.nils] })]
noncomputable def tab : Nat → Option TI := ofL none tabL
def strings_Index.f (n : Nat) (s sep : List UInt8) : Option (Int × Unit) := match sep with | [c] => if s.length ≤ 4611686018427387904 then some (Lib.indexByte s c, ()) else none | _ => none
noncomputable def strings_Index.E (n : Nat) : FunE := { ins := [(false, .str), (false, .str)], outs := [.int .i64], f := fun x => strings_Index.f n x.1 x.2.1 }

def strings_Count.f (n : Nat) (s sep : List UInt8) : Option (Int × Unit) := match sep with | [c] => if s.length ≤ 4611686018427387904 then some ((Lib.countByte s c : Int), ()) else none | _ => none
noncomputable def strings_Count.E (n : Nat) : FunE := { ins := [(false, .str), (false, .str)], outs := [.int .i64], f := fun x => strings_Count.f n x.1 x.2.1 }

def strings_explode.f (n : Nat) (s : List UInt8) (k : Int) : Option (List (List UInt8) × Unit) := none
noncomputable def strings_explode.E (n : Nat) : FunE := { ins := [(false, .str), (false, .int .i64)], outs := [.sl .str], f := fun x => strings_explode.f n x.1 x.2.1 }

noncomputable def strings_genSplit.T : Nat → Nat → Option FunE := fun n => ofL none [(21, some (strings_Count.E n)), (36, some (strings_Index.E n)), (65, some (strings_explode.E n))]
noncomputable def strings_genSplit.ann : Nat → Option (List Keep) := ofL none [(7, some [.slot 0, .slot 1, .slot 2, .slot 3]), (11, some [.slot 0, .slot 1, .slot 2, .slot 3, .vec 9 .str, .slot 10])]
noncomputable def strings_genSplit.ins : List (Bool × Ty) := [(false, .str), (false, .str), (false, (.int .i64)), (false, (.int .i64))]
def strings_genSplit.outs : List Ty := [(.sl .str)]
noncomputable def strings_genSplit.f (n : Nat) (t0 : List UInt8) (t1 : List UInt8) (t2 : Int) (t3 : Int) : Option ((List (List UInt8)) × Unit) := (fnE tab strings_genSplit.T strings_genSplit.ann Tryd.f61 strings_genSplit.ins strings_genSplit.outs n).f (t0, (t1, (t2, (t3, ()))))
noncomputable def strings_genSplit.c0 (n : Nat) (t0 : List UInt8) (t1 : List UInt8) (t2 : Int) (t3 : Int) : Option ((List (List UInt8)) × Unit) := cutN tab strings_genSplit.T strings_genSplit.ann Tryd.f61 strings_genSplit.ins strings_genSplit.outs n [1, 1, 1, 1] [(0, .val false [.v .str t0]), (1, .val false [.v .str t1]), (2, .val false [.v (.int .i64) t2]), (3, .val false [.v (.int .i64) t3])] []
noncomputable def strings_genSplit.c1 (n : Nat) (t0 : List UInt8) (t1 : List UInt8) (t2 : Int) (t3 : Int) (t9 : (List (List UInt8))) (t10 : Int) : Option ((List (List UInt8)) × Unit) := cutN tab strings_genSplit.T strings_genSplit.ann Tryd.f61 strings_genSplit.ins strings_genSplit.outs n [1, 1, 1, 1, 1, 1, 1, 1, 0, 0] [(0, .val false [.v .str t0]), (1, .val false [.v .str t1]), (2, .val false [.v (.int .i64) t2]), (3, .val false [.v (.int .i64) t3]), (9, .val false [.row 1000009]), (10, .val false [.v (.int .i64) t10])] [(1000009, .live (.row .str t9))]
theorem strings_genSplit.f_eq (n : Nat) (t0 : List UInt8) (t1 : List UInt8) (t2 : Int) (t3 : Int) : strings_genSplit.f n t0 t1 t2 t3 =
 (if (decide (t3 = 0)) = true then
 some ([], ())
 else
 (if (decide ((t1 : List UInt8) = [])) = true then
  ((strings_explode.f n t0 t3).bind fun r1 =>
   some (r1.1, ()))
  else
  (if (decide (t3 < 0)) = true then
   ((strings_Count.f n t0 t1).bind fun r2 =>
    strings_genSplit.c0 n t0 t1 t2 (IntKind.wrap .i64 (r2.1 + 1)))
   else
   strings_genSplit.c0 n t0 t1 t2 t3))) := by kernel_rfl
theorem strings_genSplit.c0_eq (n : Nat) (t0 : List UInt8) (t1 : List UInt8) (t2 : Int) (t3 : Int) : strings_genSplit.c0 (n + 1) t0 t1 t2 t3 =
 (if (0 : Int) ≤ (mnI t3 (IntKind.wrap .i64 ((t0.length : Int) + 1))) ∧ ((mnI t3 (IntKind.wrap .i64 ((t0.length : Int) + 1))) : Int) ≤ (mnI t3 (IntKind.wrap .i64 ((t0.length : Int) + 1))) ∧ ((mnI t3 (IntKind.wrap .i64 ((t0.length : Int) + 1))) : Int) ≤ 1099511627776 then
 strings_genSplit.c1 n t0 t1 t2 (IntKind.wrap .i64 ((mnI t3 (IntKind.wrap .i64 ((t0.length : Int) + 1))) - 1)) (List.replicate (mnI t3 (IntKind.wrap .i64 ((t0.length : Int) + 1))).toNat []) 0
 else none) := by kernel_rfl
theorem strings_genSplit.c1_eq (n : Nat) (t0 : List UInt8) (t1 : List UInt8) (t2 : Int) (t3 : Int) (t9 : (List (List UInt8))) (t10 : Int) : strings_genSplit.c1 (n + 1) t0 t1 t2 t3 t9 t10 =
 (if (decide (t10 < t3)) = true then
 ((strings_Index.f n t0 t1).bind fun r3 =>
  (if (decide (r3.1 < 0)) = true then
   (if (0 : Int) ≤ t10 ∧ t10 < (t9.length : Int) then
    (if (0 : Int) ≤ (IntKind.wrap .i64 (t10 + 1)) ∧ (IntKind.wrap .i64 (t10 + 1)) ≤ ((t9.set t10.toNat t0).length : Int) then
     some ((List.take (IntKind.wrap .i64 (t10 + 1)).toNat (t9.set t10.toNat t0)), ())
     else none)
    else none)
   else
   (if (0 : Int) ≤ 0 ∧ (0 : Int) ≤ (IntKind.wrap .i64 (r3.1 + t2)) ∧ ((IntKind.wrap .i64 (r3.1 + t2)) : Int) ≤ (t0.length : Int) then
    (if (0 : Int) ≤ t10 ∧ t10 < (t9.length : Int) then
     (if (0 : Int) ≤ (IntKind.wrap .i64 (r3.1 + (t1.length : Int))) ∧ ((IntKind.wrap .i64 (r3.1 + (t1.length : Int))) : Int) ≤ (t0.length : Int) ∧ ((t0.length : Int) : Int) ≤ (t0.length : Int) then
      strings_genSplit.c1 n ((t0.take t0.length).drop (IntKind.wrap .i64 (r3.1 + (t1.length : Int))).toNat) t1 t2 t3 (t9.set t10.toNat ((t0.take (IntKind.wrap .i64 (r3.1 + t2)).toNat).drop 0)) (IntKind.wrap .i64 (t10 + 1))
      else none)
     else none)
    else none)))
 else
 (if (0 : Int) ≤ t10 ∧ t10 < (t9.length : Int) then
  (if (0 : Int) ≤ (IntKind.wrap .i64 (t10 + 1)) ∧ (IntKind.wrap .i64 (t10 + 1)) ≤ ((t9.set t10.toNat t0).length : Int) then
   some ((List.take (IntKind.wrap .i64 (t10 + 1)).toNat (t9.set t10.toNat t0)), ())
   else none)
  else none)) := by kernel_rfl
noncomputable def strings_genSplit.E (n : Nat) : FunE := fnE tab strings_genSplit.T strings_genSplit.ann Tryd.f61 strings_genSplit.ins strings_genSplit.outs n

noncomputable def strings_Split.T : Nat → Nat → Option FunE := fun n => ofL none [(61, some (strings_genSplit.E n))]
noncomputable def strings_Split.ann : Nat → Option (List Keep) := ofL none []
noncomputable def strings_Split.ins : List (Bool × Ty) := [(false, .str), (false, .str)]
def strings_Split.outs : List Ty := [(.sl .str)]
noncomputable def strings_Split.f (n : Nat) (s0 : List UInt8) (sep1 : List UInt8) : Option ((List (List UInt8)) × Unit) := (fnE tab strings_Split.T strings_Split.ann Tryd.f55 strings_Split.ins strings_Split.outs n).f (s0, (sep1, ()))
theorem strings_Split.f_eq (n : Nat) (s0 : List UInt8) (sep1 : List UInt8) : strings_Split.f n s0 sep1 =
 ((strings_genSplit.f n s0 sep1 0 (-1)).bind fun r1 =>
 some (r1.1, ())) := by kernel_rfl
noncomputable def strings_Split.E (n : Nat) : FunE := fnE tab strings_Split.T strings_Split.ann Tryd.f55 strings_Split.ins strings_Split.outs n

noncomputable def monitor_words.T : Nat → Nat → Option FunE := fun n => ofL none [(55, some (strings_Split.E n))]
noncomputable def monitor_words.ann : Nat → Option (List Keep) := ofL none [(3, some [.slot 4, .slot 10, .slot 11, .slot 12]), (8, some [.slot 4, .slot 6, .slot 10, .slot 11, .slot 12, .slot 19, .slot 20])]
noncomputable def monitor_words.ins : List (Bool × Ty) := [(false, .str)]
def monitor_words.outs : List Ty := [(.sl .str), .bool]
noncomputable def monitor_words.f (n : Nat) (line0 : List UInt8) : Option ((List (List UInt8)) × Bool × Unit) := (fnE tab monitor_words.T monitor_words.ann Tryd.f32 monitor_words.ins monitor_words.outs n).f (line0, ())
noncomputable def monitor_words.c0 (n : Nat) (l4 : (List (List UInt8))) (t10 : (List (List UInt8))) (t11 : Int) (t12 : Int) : Option ((List (List UInt8)) × Bool × Unit) := cutN tab monitor_words.T monitor_words.ann Tryd.f32 monitor_words.ins monitor_words.outs n [1, 1, 0, 1, 0] [(4, .val false [.v (.sl .str) l4]), (10, .val false [.v (.sl .str) t10]), (11, .val false [.v (.int .i64) t11]), (12, .val false [.v (.int .i64) t12])] []
noncomputable def monitor_words.c1 (n : Nat) (l4 : (List (List UInt8))) (s6 : List UInt8) (t10 : (List (List UInt8))) (t11 : Int) (t12 : Int) (t19 : Int) (t20 : Int) : Option ((List (List UInt8)) × Bool × Unit) := cutN tab monitor_words.T monitor_words.ann Tryd.f32 monitor_words.ins monitor_words.outs n [1, 1, 0, 1, 0, 0, 1, 1, 0, 0, 1, 1, 1, 0] [(4, .val false [.v (.sl .str) l4]), (6, .val false [.v .str s6]), (10, .val false [.v (.sl .str) t10]), (11, .val false [.v (.int .i64) t11]), (12, .val false [.v (.int .i64) t12]), (19, .val false [.v (.int .i64) t19]), (20, .val false [.v (.int .i64) t20])] []
theorem monitor_words.f_eq (n : Nat) (line0 : List UInt8) : monitor_words.f n line0 =
 ((strings_Split.f n line0 [32]).bind fun r1 =>
 monitor_words.c0 n r1.1 r1.1 (r1.1.length : Int) 0) := by kernel_rfl
theorem monitor_words.c0_eq (n : Nat) (l4 : (List (List UInt8))) (t10 : (List (List UInt8))) (t11 : Int) (t12 : Int) : monitor_words.c0 (n + 1) l4 t10 t11 t12 =
 (if (decide (t12 < t11)) = true then
 (if (0 : Int) ≤ t12 ∧ t12 < (t10.length : Int) then
  (if (decide (((t10.getD t12.toNat []) : List UInt8) = [])) = true then
   some ([], (false, ()))
   else
   monitor_words.c1 n l4 (t10.getD t12.toNat []) t10 t11 t12 ((t10.getD t12.toNat []).length : Int) 0)
  else none)
 else
 some (l4, (true, ()))) := by kernel_rfl
theorem monitor_words.c1_eq (n : Nat) (l4 : (List (List UInt8))) (s6 : List UInt8) (t10 : (List (List UInt8))) (t11 : Int) (t12 : Int) (t19 : Int) (t20 : Int) : monitor_words.c1 (n + 1) l4 s6 t10 t11 t12 t19 t20 =
 (if (decide (t20 < t19)) = true then
 (if (0 : Int) ≤ t20 ∧ t20 < (s6.length : Int) then
  (if (decide (((s6.getD t20.toNat 0).toNat : Int) < 33)) = true then
   some ([], (false, ()))
   else
   (if (0 : Int) ≤ t20 ∧ t20 < (s6.length : Int) then
    (if (decide (126 < ((s6.getD t20.toNat 0).toNat : Int))) = true then
     some ([], (false, ()))
     else
     monitor_words.c1 n l4 s6 t10 t11 t12 t19 (IntKind.wrap .i64 (t20 + 1)))
    else none))
  else none)
 else
 monitor_words.c0 n l4 t10 t11 (IntKind.wrap .i64 (t12 + 1))) := by kernel_rfl
noncomputable def monitor_words.E (n : Nat) : FunE := fnE tab monitor_words.T monitor_words.ann Tryd.f32 monitor_words.ins monitor_words.outs n

noncomputable def monitor_actOf.T : Nat → Nat → Option FunE := fun n => ofL none []
noncomputable def monitor_actOf.ann : Nat → Option (List Keep) := ofL none []
noncomputable def monitor_actOf.ins : List (Bool × Ty) := [(false, .str), (false, .str)]
def monitor_actOf.outs : List Ty := [YAct, .bool]
noncomputable def monitor_actOf.f (n : Nat) (verb0 : List UInt8) (name1 : List UInt8) : Option (DAct × Bool × Unit) := (fnE tab monitor_actOf.T monitor_actOf.ann Tryd.f33 monitor_actOf.ins monitor_actOf.outs n).f (verb0, (name1, ()))
theorem monitor_actOf.f_eq (n : Nat) (verb0 : List UInt8) (name1 : List UInt8) : monitor_actOf.f n verb0 name1 =
 (if (decide ((verb0 : List UInt8) = [114, 97, 105, 115, 101])) = true then
 some ((1, (name1, false)), (true, ()))
 else
 (if (decide ((verb0 : List UInt8) = [111, 110])) = true then
  some ((2, (name1, false)), (true, ()))
  else
  (if (decide ((verb0 : List UInt8) = [111, 102, 102])) = true then
   some ((3, (name1, false)), (true, ()))
   else
   (if (decide ((verb0 : List UInt8) = [115, 119, 105, 116, 99, 104, 45, 111, 110])) = true then
    some ((4, (name1, false)), (true, ()))
    else
    (if (decide ((verb0 : List UInt8) = [115, 119, 105, 116, 99, 104, 45, 111, 102, 102])) = true then
     some ((4, (name1, true)), (true, ()))
     else
     some ((0, ([], false)), (false, ()))))))) := by kernel_rfl
noncomputable def monitor_actOf.E (n : Nat) : FunE := fnE tab monitor_actOf.T monitor_actOf.ann Tryd.f33 monitor_actOf.ins monitor_actOf.outs n

noncomputable def monitor_reader_take.T : Nat → Nat → Option FunE := fun n => ofL none [(32, some (monitor_words.E n)), (33, some (monitor_actOf.E n))]
noncomputable def monitor_reader_take.ann : Nat → Option (List Keep) := ofL none [(18, some [.obj 0 (.pair (.vec .str) (.pair (.vec YModeChange) (.pair .str (.pair (.vec YWatchRule) .bool)))), .slot 5, .obj 7 (.pair .str (.pair .str (.pair .str (.pair .bool (.nil )))))]), (2000005, some [.obj 0 (.pair (.vec .str) (.pair (.vec YModeChange) (.pair .str (.pair (.vec YWatchRule) .bool)))), .slot 5, .slot 19]), (2000008, some [.obj 0 (.pair (.vec .str) (.pair (.vec YModeChange) (.pair .str (.pair (.vec YWatchRule) .bool)))), .slot 5, .slot 57]), (2000011, some [.obj 0 (.pair (.vec .str) (.pair (.vec YModeChange) (.pair .str (.pair (.vec YWatchRule) .bool)))), .slot 5, .slot 93]), (2000015, some [.obj 0 (.pair (.vec .str) (.pair (.vec YModeChange) (.pair .str (.pair (.vec YWatchRule) .bool)))), .slot 5, .slot 119]), (2000021, some [.obj 0 (.pair (.vec .str) (.pair (.vec YModeChange) (.pair .str (.pair (.vec YWatchRule) .bool)))), .slot 5, .slot 175]), (5000023, some [.view 10 0])]
noncomputable def monitor_reader_take.ins : List (Bool × Ty) := [(true, Yreader), (false, .str)]
def monitor_reader_take.outs : List Ty := [.bool]
noncomputable def monitor_reader_take.f (n : Nat) (t0 : Dreader) (t1 : List UInt8) : Option (Bool × Dreader × Unit) := (fnE tab monitor_reader_take.T monitor_reader_take.ann Tryd.f20 monitor_reader_take.ins monitor_reader_take.outs n).f (t0, (t1, ()))
noncomputable def monitor_reader_take.c0 (n : Nat) (t0_0 : (List (List UInt8))) (t0_1 : (List DModeChange)) (t0_2 : List UInt8) (t0_3 : (List DWatchRule)) (t0_4 : Bool) (t5 : (List (List UInt8))) (t19 : Bool) : Option (Bool × Dreader × Unit) := cutN tab monitor_reader_take.T monitor_reader_take.ann Tryd.f20 monitor_reader_take.ins monitor_reader_take.outs n [1, 1, 0, 0, 1, 1, 1] [(0, .val false [.ptr 1000000 0]), (5, .val false [.v (.sl .str) t5]), (19, .val false [.v .bool t19])] [(1000000, .live (.cells 1 [.v (.vec .str) t0_0, .v (.vec YModeChange) t0_1, .v .str t0_2, .v (.vec YWatchRule) t0_3, .v .bool t0_4]))]
noncomputable def monitor_reader_take.c1 (n : Nat) (t0_0 : (List (List UInt8))) (t0_1 : (List DModeChange)) (t0_2 : List UInt8) (t0_3 : (List DWatchRule)) (t0_4 : Bool) (t5 : (List (List UInt8))) (t57 : Bool) : Option (Bool × Dreader × Unit) := cutN tab monitor_reader_take.T monitor_reader_take.ann Tryd.f20 monitor_reader_take.ins monitor_reader_take.outs n [1, 1, 0, 0, 1, 1, 1, 1, 1] [(0, .val false [.ptr 1000000 0]), (5, .val false [.v (.sl .str) t5]), (57, .val false [.v .bool t57])] [(1000000, .live (.cells 1 [.v (.vec .str) t0_0, .v (.vec YModeChange) t0_1, .v .str t0_2, .v (.vec YWatchRule) t0_3, .v .bool t0_4]))]
noncomputable def monitor_reader_take.c2 (n : Nat) (t0_0 : (List (List UInt8))) (t0_1 : (List DModeChange)) (t0_2 : List UInt8) (t0_3 : (List DWatchRule)) (t0_4 : Bool) (t5 : (List (List UInt8))) (t93 : Bool) : Option (Bool × Dreader × Unit) := cutN tab monitor_reader_take.T monitor_reader_take.ann Tryd.f20 monitor_reader_take.ins monitor_reader_take.outs n [1, 1, 0, 0, 1, 1, 1, 1, 1, 1, 1] [(0, .val false [.ptr 1000000 0]), (5, .val false [.v (.sl .str) t5]), (93, .val false [.v .bool t93])] [(1000000, .live (.cells 1 [.v (.vec .str) t0_0, .v (.vec YModeChange) t0_1, .v .str t0_2, .v (.vec YWatchRule) t0_3, .v .bool t0_4]))]
noncomputable def monitor_reader_take.c3 (n : Nat) (t0_0 : (List (List UInt8))) (t0_1 : (List DModeChange)) (t0_2 : List UInt8) (t0_3 : (List DWatchRule)) (t0_4 : Bool) (t5 : (List (List UInt8))) (t119 : Bool) : Option (Bool × Dreader × Unit) := cutN tab monitor_reader_take.T monitor_reader_take.ann Tryd.f20 monitor_reader_take.ins monitor_reader_take.outs n [1, 1, 0, 0, 1, 1, 1, 1, 1, 1, 1, 1, 1] [(0, .val false [.ptr 1000000 0]), (5, .val false [.v (.sl .str) t5]), (119, .val false [.v .bool t119])] [(1000000, .live (.cells 1 [.v (.vec .str) t0_0, .v (.vec YModeChange) t0_1, .v .str t0_2, .v (.vec YWatchRule) t0_3, .v .bool t0_4]))]
noncomputable def monitor_reader_take.c4 (n : Nat) (t0_0 : (List (List UInt8))) (t0_1 : (List DModeChange)) (t0_2 : List UInt8) (t0_3 : (List DWatchRule)) (t0_4 : Bool) (t5 : (List (List UInt8))) (t7_0 : List UInt8) (t7_1 : List UInt8) (t7_2 : List UInt8) (t7_3 : Bool) : Option (Bool × Dreader × Unit) := cutN tab monitor_reader_take.T monitor_reader_take.ann Tryd.f20 monitor_reader_take.ins monitor_reader_take.outs n [1, 1, 0, 0, 1, 1, 1, 1, 1, 1, 1, 1, 1, 0, 1, 1] [(0, .val false [.ptr 1000000 0]), (5, .val false [.v (.sl .str) t5]), (7, .val false [.ptr 1000007 0])] [(1000000, .live (.cells 1 [.v (.vec .str) t0_0, .v (.vec YModeChange) t0_1, .v .str t0_2, .v (.vec YWatchRule) t0_3, .v .bool t0_4])), (1000007, .live (.cells 0 [.v .str t7_0, .v .str t7_1, .v .str t7_2, .v .bool t7_3, .nils]))]
noncomputable def monitor_reader_take.c5 (n : Nat) (t0_0 : (List (List UInt8))) (t0_1 : (List DModeChange)) (t0_2 : List UInt8) (t0_3 : (List DWatchRule)) (t0_4 : Bool) (t5 : (List (List UInt8))) (t175 : Bool) : Option (Bool × Dreader × Unit) := cutN tab monitor_reader_take.T monitor_reader_take.ann Tryd.f20 monitor_reader_take.ins monitor_reader_take.outs n [1, 1, 0, 0, 1, 1, 1, 1, 1, 1, 1, 1, 1, 1, 1] [(0, .val false [.ptr 1000000 0]), (5, .val false [.v (.sl .str) t5]), (175, .val false [.v .bool t175])] [(1000000, .live (.cells 1 [.v (.vec .str) t0_0, .v (.vec YModeChange) t0_1, .v .str t0_2, .v (.vec YWatchRule) t0_3, .v .bool t0_4]))]
theorem monitor_reader_take.f_eq (n : Nat) (t0 : Dreader) (t1 : List UInt8) : monitor_reader_take.f n t0 t1 =
 ((monitor_words.f n t1).bind fun r1 =>
 (if (!r1.2.1) = true then
  some (false, (t0, ()))
  else
  (if (decide ((r1.1.length : Int) = 2)) = true then
   (if (0 : Int) ≤ 0 ∧ 0 < (r1.1.length : Int) then
    monitor_reader_take.c0 n t0.1.1 t0.1.2.1 t0.1.2.2.1 t0.1.2.2.2 t0.2 r1.1 (decide (((r1.1.getD 0 []) : List UInt8) = [109, 111, 100, 101]))
    else none)
   else
   monitor_reader_take.c0 n t0.1.1 t0.1.2.1 t0.1.2.2.1 t0.1.2.2.2 t0.2 r1.1 false))) := by kernel_rfl
theorem monitor_reader_take.c0_eq (n : Nat) (t0_0 : (List (List UInt8))) (t0_1 : (List DModeChange)) (t0_2 : List UInt8) (t0_3 : (List DWatchRule)) (t0_4 : Bool) (t5 : (List (List UInt8))) (t19 : Bool) : monitor_reader_take.c0 (n + 1) t0_0 t0_1 t0_2 t0_3 t0_4 t5 t19 =
 (if t19 = true then
 (if (0 : Int) ≤ 1 ∧ 1 < (t5.length : Int) then
  (if t0_0.length + 1 ≤ 1099511627776 then
   (if (!t0_4) = true then
    some ((decide ((t0_1.length : Int) = 0)), ((((t0_0 ++ [(t5.getD 1 [])]), (t0_1, (t0_2, t0_3))), t0_4), ()))
    else
    some (false, ((((t0_0 ++ [(t5.getD 1 [])]), (t0_1, (t0_2, t0_3))), t0_4), ())))
   else none)
  else none)
 else
 (if (decide ((t5.length : Int) = 4)) = true then
  (if (0 : Int) ≤ 0 ∧ 0 < (t5.length : Int) then
   monitor_reader_take.c1 n t0_0 t0_1 t0_2 t0_3 t0_4 t5 (decide (((t5.getD 0 []) : List UInt8) = [99, 104, 97, 110, 103, 101]))
   else none)
  else
  monitor_reader_take.c1 n t0_0 t0_1 t0_2 t0_3 t0_4 t5 false)) := by kernel_rfl
theorem monitor_reader_take.c1_eq (n : Nat) (t0_0 : (List (List UInt8))) (t0_1 : (List DModeChange)) (t0_2 : List UInt8) (t0_3 : (List DWatchRule)) (t0_4 : Bool) (t5 : (List (List UInt8))) (t57 : Bool) : monitor_reader_take.c1 (n + 1) t0_0 t0_1 t0_2 t0_3 t0_4 t5 t57 =
 (if t57 = true then
 (if (0 : Int) ≤ 1 ∧ 1 < (t5.length : Int) then
  (if (0 : Int) ≤ 2 ∧ 2 < (t5.length : Int) then
   (if (0 : Int) ≤ 3 ∧ 3 < (t5.length : Int) then
    (if t0_1.length + 1 ≤ 1099511627776 then
     some ((!t0_4), (((t0_0, ((t0_1 ++ [((t5.getD 1 []), ((t5.getD 2 []), (t5.getD 3 [])))]), (t0_2, t0_3))), t0_4), ()))
     else none)
    else none)
   else none)
  else none)
 else
 (if (decide ((t5.length : Int) = 2)) = true then
  (if (0 : Int) ≤ 0 ∧ 0 < (t5.length : Int) then
   monitor_reader_take.c2 n t0_0 t0_1 t0_2 t0_3 t0_4 t5 (decide (((t5.getD 0 []) : List UInt8) = [98, 101, 103, 105, 110]))
   else none)
  else
  monitor_reader_take.c2 n t0_0 t0_1 t0_2 t0_3 t0_4 t5 false)) := by kernel_rfl
theorem monitor_reader_take.c2_eq (n : Nat) (t0_0 : (List (List UInt8))) (t0_1 : (List DModeChange)) (t0_2 : List UInt8) (t0_3 : (List DWatchRule)) (t0_4 : Bool) (t5 : (List (List UInt8))) (t93 : Bool) : monitor_reader_take.c2 (n + 1) t0_0 t0_1 t0_2 t0_3 t0_4 t5 t93 =
 (if t93 = true then
 (if (0 : Int) ≤ 1 ∧ 1 < (t5.length : Int) then
  some ((!t0_4), (((t0_0, (t0_1, ((t5.getD 1 []), t0_3))), true), ()))
  else none)
 else
 (if (decide ((t5.length : Int) = 5)) = true then
  (if (0 : Int) ≤ 0 ∧ 0 < (t5.length : Int) then
   monitor_reader_take.c3 n t0_0 t0_1 t0_2 t0_3 t0_4 t5 (decide (((t5.getD 0 []) : List UInt8) = [114, 117, 108, 101]))
   else none)
  else
  monitor_reader_take.c3 n t0_0 t0_1 t0_2 t0_3 t0_4 t5 false)) := by kernel_rfl
theorem monitor_reader_take.c3_eq (n : Nat) (t0_0 : (List (List UInt8))) (t0_1 : (List DModeChange)) (t0_2 : List UInt8) (t0_3 : (List DWatchRule)) (t0_4 : Bool) (t5 : (List (List UInt8))) (t119 : Bool) : monitor_reader_take.c3 (n + 1) t0_0 t0_1 t0_2 t0_3 t0_4 t5 t119 =
 (if t119 = true then
 (if (0 : Int) ≤ 1 ∧ 1 < (t5.length : Int) then
  (if (0 : Int) ≤ 2 ∧ 2 < (t5.length : Int) then
   (if (0 : Int) ≤ 3 ∧ 3 < (t5.length : Int) then
    (if (0 : Int) ≤ 4 ∧ 4 < (t5.length : Int) then
     (if (decide (((t5.getD 3 []) : List UInt8) = [42])) = true then
      monitor_reader_take.c4 n t0_0 t0_1 t0_2 t0_3 t0_4 t5 (t5.getD 1 []) (t5.getD 2 []) [] (decide (((t5.getD 4 []) : List UInt8) = [111, 110, 99, 101]))
      else
      monitor_reader_take.c4 n t0_0 t0_1 t0_2 t0_3 t0_4 t5 (t5.getD 1 []) (t5.getD 2 []) (t5.getD 3 []) (decide (((t5.getD 4 []) : List UInt8) = [111, 110, 99, 101])))
     else none)
    else none)
   else none)
  else none)
 else
 (if (decide ((t5.length : Int) = 2)) = true then
  monitor_reader_take.c5 n t0_0 t0_1 t0_2 t0_3 t0_4 t5 (decide (0 < (t0_3.length : Int)))
  else
  monitor_reader_take.c5 n t0_0 t0_1 t0_2 t0_3 t0_4 t5 false)) := by kernel_rfl
theorem monitor_reader_take.c4_eq (n : Nat) (t0_0 : (List (List UInt8))) (t0_1 : (List DModeChange)) (t0_2 : List UInt8) (t0_3 : (List DWatchRule)) (t0_4 : Bool) (t5 : (List (List UInt8))) (t7_0 : List UInt8) (t7_1 : List UInt8) (t7_2 : List UInt8) (t7_3 : Bool) : monitor_reader_take.c4 (n + 1) t0_0 t0_1 t0_2 t0_3 t0_4 t5 t7_0 t7_1 t7_2 t7_3 =
 (if t0_3.length + 1 ≤ 1099511627776 then
 (if t0_4 = true then
  (if (0 : Int) ≤ 4 ∧ 4 < (t5.length : Int) then
   (if (decide (((t5.getD 4 []) : List UInt8) = [111, 110, 99, 101])) = true then
    some (true, (((t0_0, (t0_1, (t0_2, (t0_3 ++ [(t7_0, (t7_1, (t7_2, (t7_3, []))))])))), t0_4), ()))
    else
    (if (0 : Int) ≤ 4 ∧ 4 < (t5.length : Int) then
     some ((decide (((t5.getD 4 []) : List UInt8) = [97, 108, 119, 97, 121, 115])), (((t0_0, (t0_1, (t0_2, (t0_3 ++ [(t7_0, (t7_1, (t7_2, (t7_3, []))))])))), t0_4), ()))
     else none))
   else none)
  else
  some (false, (((t0_0, (t0_1, (t0_2, (t0_3 ++ [(t7_0, (t7_1, (t7_2, (t7_3, []))))])))), t0_4), ())))
 else none) := by kernel_rfl
theorem monitor_reader_take.c5_eq (n : Nat) (t0_0 : (List (List UInt8))) (t0_1 : (List DModeChange)) (t0_2 : List UInt8) (t0_3 : (List DWatchRule)) (t0_4 : Bool) (t5 : (List (List UInt8))) (t175 : Bool) : monitor_reader_take.c5 (n + 1) t0_0 t0_1 t0_2 t0_3 t0_4 t5 t175 =
 (if t175 = true then
 (if (0 : Int) ≤ 0 ∧ 0 < (t5.length : Int) then
  (if (0 : Int) ≤ 1 ∧ 1 < (t5.length : Int) then
   ((monitor_actOf.f n (t5.getD 0 []) (t5.getD 1 [])).bind fun r2 =>
    (if (0 : Int) ≤ (IntKind.wrap .i64 ((t0_3.length : Int) - 1)) ∧ (IntKind.wrap .i64 ((t0_3.length : Int) - 1)) < (t0_3.length : Int) then
     (if (t0_3.getD (IntKind.wrap .i64 ((t0_3.length : Int) - 1)).toNat (Ty.dflt YWatchRule)).2.2.2.2.length + 1 ≤ 1099511627776 then
      some (r2.2.1, (((t0_0, (t0_1, (t0_2, (t0_3.set (IntKind.wrap .i64 ((t0_3.length : Int) - 1)).toNat ((t0_3.getD (IntKind.wrap .i64 ((t0_3.length : Int) - 1)).toNat (Ty.dflt YWatchRule)).1, ((t0_3.getD (IntKind.wrap .i64 ((t0_3.length : Int) - 1)).toNat (Ty.dflt YWatchRule)).2.1, ((t0_3.getD (IntKind.wrap .i64 ((t0_3.length : Int) - 1)).toNat (Ty.dflt YWatchRule)).2.2.1, ((t0_3.getD (IntKind.wrap .i64 ((t0_3.length : Int) - 1)).toNat (Ty.dflt YWatchRule)).2.2.2.1, ((t0_3.getD (IntKind.wrap .i64 ((t0_3.length : Int) - 1)).toNat (Ty.dflt YWatchRule)).2.2.2.2 ++ [r2.1]))))))))), t0_4), ()))
      else none)
     else none))
   else none)
  else none)
 else
 some (false, (((t0_0, (t0_1, (t0_2, t0_3))), t0_4), ()))) := by kernel_rfl
noncomputable def monitor_reader_take.E (n : Nat) : FunE := fnE tab monitor_reader_take.T monitor_reader_take.ann Tryd.f20 monitor_reader_take.ins monitor_reader_take.outs n

noncomputable def monitor_IsName.T : Nat → Nat → Option FunE := fun n => ofL none []
noncomputable def monitor_IsName.ann : Nat → Option (List Keep) := ofL none [(3, some [.slot 0]), (4, some [.slot 0, .slot 13, .slot 14])]
noncomputable def monitor_IsName.ins : List (Bool × Ty) := [(false, .str)]
def monitor_IsName.outs : List Ty := [.bool]
noncomputable def monitor_IsName.f (n : Nat) (s0 : List UInt8) : Option (Bool × Unit) := (fnE tab monitor_IsName.T monitor_IsName.ann Tryd.f49 monitor_IsName.ins monitor_IsName.outs n).f (s0, ())
noncomputable def monitor_IsName.c0 (n : Nat) (s0 : List UInt8) : Option (Bool × Unit) := cutN tab monitor_IsName.T monitor_IsName.ann Tryd.f49 monitor_IsName.ins monitor_IsName.outs n [1, 1] [(0, .val false [.v .str s0])] []
noncomputable def monitor_IsName.c1 (n : Nat) (s0 : List UInt8) (t13 : Int) (t14 : Int) : Option (Bool × Unit) := cutN tab monitor_IsName.T monitor_IsName.ann Tryd.f49 monitor_IsName.ins monitor_IsName.outs n [1, 1, 0, 1, 0] [(0, .val false [.v .str s0]), (13, .val false [.v (.int .i64) t13]), (14, .val false [.v (.int .i64) t14])] []
theorem monitor_IsName.f_eq (n : Nat) (s0 : List UInt8) : monitor_IsName.f n s0 =
 (if (decide ((s0 : List UInt8) = [])) = true then
 some (false, ())
 else
 (if (decide (40 < (s0.length : Int))) = true then
  some (false, ())
  else
  monitor_IsName.c0 n s0)) := by kernel_rfl
theorem monitor_IsName.c0_eq (n : Nat) (s0 : List UInt8) : monitor_IsName.c0 (n + 1) s0 =
 monitor_IsName.c1 n s0 (s0.length : Int) 0 := by kernel_rfl
theorem monitor_IsName.c1_eq (n : Nat) (s0 : List UInt8) (t13 : Int) (t14 : Int) : monitor_IsName.c1 (n + 1) s0 t13 t14 =
 (if (decide (t14 < t13)) = true then
 (if (0 : Int) ≤ t14 ∧ t14 < (s0.length : Int) then
  (if (decide (((s0.getD t14.toNat 0).toNat : Int) < 97)) = true then
   (if (decide (t14 = 0)) = true then
    some (false, ())
    else
    (if (!(decide (((s0.getD t14.toNat 0).toNat : Int) = 45))) = true then
     (if (!(decide (((s0.getD t14.toNat 0).toNat : Int) = 95))) = true then
      (if (decide (((s0.getD t14.toNat 0).toNat : Int) < 48)) = true then
       some (false, ())
       else
       (if (decide (57 < ((s0.getD t14.toNat 0).toNat : Int))) = true then
        some (false, ())
        else
        monitor_IsName.c1 n s0 t13 (IntKind.wrap .i64 (t14 + 1))))
      else
      monitor_IsName.c1 n s0 t13 (IntKind.wrap .i64 (t14 + 1)))
     else
     monitor_IsName.c1 n s0 t13 (IntKind.wrap .i64 (t14 + 1))))
   else
   (if (decide (122 < ((s0.getD t14.toNat 0).toNat : Int))) = true then
    (if (decide (t14 = 0)) = true then
     some (false, ())
     else
     (if (!(decide (((s0.getD t14.toNat 0).toNat : Int) = 45))) = true then
      (if (!(decide (((s0.getD t14.toNat 0).toNat : Int) = 95))) = true then
       (if (decide (((s0.getD t14.toNat 0).toNat : Int) < 48)) = true then
        some (false, ())
        else
        (if (decide (57 < ((s0.getD t14.toNat 0).toNat : Int))) = true then
         some (false, ())
         else
         monitor_IsName.c1 n s0 t13 (IntKind.wrap .i64 (t14 + 1))))
       else
       monitor_IsName.c1 n s0 t13 (IntKind.wrap .i64 (t14 + 1)))
      else
      monitor_IsName.c1 n s0 t13 (IntKind.wrap .i64 (t14 + 1))))
    else
    monitor_IsName.c1 n s0 t13 (IntKind.wrap .i64 (t14 + 1))))
  else none)
 else
 some (true, ())) := by kernel_rfl
noncomputable def monitor_IsName.E (n : Nat) : FunE := fnE tab monitor_IsName.T monitor_IsName.ann Tryd.f49 monitor_IsName.ins monitor_IsName.outs n

noncomputable def slices_Index_string.T : Nat → Nat → Option FunE := fun n => ofL none []
noncomputable def slices_Index_string.ann : Nat → Option (List Keep) := ofL none [(2, some [.slot 0, .slot 1, .slot 7, .slot 8])]
noncomputable def slices_Index_string.ins : List (Bool × Ty) := [(false, (.sl .str)), (false, .str)]
def slices_Index_string.outs : List Ty := [(.int .i64)]
noncomputable def slices_Index_string.f (n : Nat) (s0 : (List (List UInt8))) (v1 : List UInt8) : Option (Int × Unit) := (fnE tab slices_Index_string.T slices_Index_string.ann Tryd.f58 slices_Index_string.ins slices_Index_string.outs n).f (s0, (v1, ()))
noncomputable def slices_Index_string.c0 (n : Nat) (s0 : (List (List UInt8))) (v1 : List UInt8) (t7 : Int) (t8 : Int) : Option (Int × Unit) := cutN tab slices_Index_string.T slices_Index_string.ann Tryd.f58 slices_Index_string.ins slices_Index_string.outs n [1, 0, 1, 0] [(0, .val false [.v (.sl .str) s0]), (1, .val false [.v .str v1]), (7, .val false [.v (.int .i64) t7]), (8, .val false [.v (.int .i64) t8])] []
theorem slices_Index_string.f_eq (n : Nat) (s0 : (List (List UInt8))) (v1 : List UInt8) : slices_Index_string.f n s0 v1 =
 slices_Index_string.c0 n s0 v1 (s0.length : Int) 0 := by kernel_rfl
theorem slices_Index_string.c0_eq (n : Nat) (s0 : (List (List UInt8))) (v1 : List UInt8) (t7 : Int) (t8 : Int) : slices_Index_string.c0 (n + 1) s0 v1 t7 t8 =
 (if (decide (t8 < t7)) = true then
 (if (0 : Int) ≤ t8 ∧ t8 < (s0.length : Int) then
  (if (decide ((v1 : List UInt8) = (s0.getD t8.toNat []))) = true then
   some (t8, ())
   else
   slices_Index_string.c0 n s0 v1 t7 (IntKind.wrap .i64 (t8 + 1)))
  else none)
 else
 some ((-1), ())) := by kernel_rfl
noncomputable def slices_Index_string.E (n : Nat) : FunE := fnE tab slices_Index_string.T slices_Index_string.ann Tryd.f58 slices_Index_string.ins slices_Index_string.outs n

noncomputable def slices_Contains_string.T : Nat → Nat → Option FunE := fun n => ofL none [(58, some (slices_Index_string.E n))]
noncomputable def slices_Contains_string.ann : Nat → Option (List Keep) := ofL none []
noncomputable def slices_Contains_string.ins : List (Bool × Ty) := [(false, (.sl .str)), (false, .str)]
def slices_Contains_string.outs : List Ty := [.bool]
noncomputable def slices_Contains_string.f (n : Nat) (s0 : (List (List UInt8))) (v1 : List UInt8) : Option (Bool × Unit) := (fnE tab slices_Contains_string.T slices_Contains_string.ann Tryd.f50 slices_Contains_string.ins slices_Contains_string.outs n).f (s0, (v1, ()))
theorem slices_Contains_string.f_eq (n : Nat) (s0 : (List (List UInt8))) (v1 : List UInt8) : slices_Contains_string.f n s0 v1 =
 ((slices_Index_string.f n s0 v1).bind fun r1 =>
 some ((decide (0 ≤ r1.1)), ())) := by kernel_rfl
noncomputable def slices_Contains_string.E (n : Nat) : FunE := fnE tab slices_Contains_string.T slices_Contains_string.ann Tryd.f50 slices_Contains_string.ins slices_Contains_string.outs n

noncomputable def monitor_checkModes.T : Nat → Nat → Option FunE := fun n => ofL none [(49, some (monitor_IsName.E n)), (50, some (slices_Contains_string.E n))]
noncomputable def monitor_checkModes.ann : Nat → Option (List Keep) := ofL none [(6, some [.obj 1 YFWatch, .slot 17, .slot 18, .slot 19]), (16, some [.obj 1 YFWatch, .slot 45, .slot 46, .slot 47]), (20, some [.obj 1 YFWatch, .slot 5, .obj 6 YModeChange, .slot 45, .slot 46, .slot 47])]
noncomputable def monitor_checkModes.ins : List (Bool × Ty) := [(false, YFWatch)]
def monitor_checkModes.outs : List Ty := [(.int .i64)]
noncomputable def monitor_checkModes.f (n : Nat) (t0 : DFWatch) : Option (Int × Unit) := (fnE tab monitor_checkModes.T monitor_checkModes.ann Tryd.f27 monitor_checkModes.ins monitor_checkModes.outs n).f (t0, ())
noncomputable def monitor_checkModes.c0 (n : Nat) (t1_0 : (List (List UInt8))) (t1_1 : (List DModeChange)) (t1_2 : List UInt8) (t1_3 : (List DFWatchRule)) (t17 : (List (List UInt8))) (t18 : Int) (t19 : Int) : Option (Int × Unit) := cutN tab monitor_checkModes.T monitor_checkModes.ann Tryd.f27 monitor_checkModes.ins monitor_checkModes.outs n [1, 1, 1, 0, 1, 0] [(1, .val false [.ptr 1000001 0]), (17, .val false [.v (.sl .str) t17]), (18, .val false [.v (.int .i64) t18]), (19, .val false [.v (.int .i64) t19])] [(1000001, .live (.cells 0 [.v (.sl .str) t1_0, .v (.sl YModeChange) t1_1, .v .str t1_2, .v (.sl YFWatchRule) t1_3]))]
noncomputable def monitor_checkModes.c1 (n : Nat) (t1_0 : (List (List UInt8))) (t1_1 : (List DModeChange)) (t1_2 : List UInt8) (t1_3 : (List DFWatchRule)) (t45 : (List DModeChange)) (t46 : Int) (t47 : Int) : Option (Int × Unit) := cutN tab monitor_checkModes.T monitor_checkModes.ann Tryd.f27 monitor_checkModes.ins monitor_checkModes.outs n [1, 1, 1, 1, 1, 0, 1, 0] [(1, .val false [.ptr 1000001 0]), (45, .val false [.v (.sl YModeChange) t45]), (46, .val false [.v (.int .i64) t46]), (47, .val false [.v (.int .i64) t47])] [(1000001, .live (.cells 0 [.v (.sl .str) t1_0, .v (.sl YModeChange) t1_1, .v .str t1_2, .v (.sl YFWatchRule) t1_3]))]
noncomputable def monitor_checkModes.c2 (n : Nat) (t1_0 : (List (List UInt8))) (t1_1 : (List DModeChange)) (t1_2 : List UInt8) (t1_3 : (List DFWatchRule)) (t5 : Int) (t6_0 : List UInt8) (t6_1 : List UInt8) (t6_2 : List UInt8) (t45 : (List DModeChange)) (t46 : Int) (t47 : Int) : Option (Int × Unit) := cutN tab monitor_checkModes.T monitor_checkModes.ann Tryd.f27 monitor_checkModes.ins monitor_checkModes.outs n [1, 1, 1, 1, 1, 0, 1, 0, 0, 1, 1, 0, 0, 1, 1] [(1, .val false [.ptr 1000001 0]), (5, .val false [.v (.int .i64) t5]), (6, .val false [.ptr 1000006 0]), (45, .val false [.v (.sl YModeChange) t45]), (46, .val false [.v (.int .i64) t46]), (47, .val false [.v (.int .i64) t47])] [(1000001, .live (.cells 0 [.v (.sl .str) t1_0, .v (.sl YModeChange) t1_1, .v .str t1_2, .v (.sl YFWatchRule) t1_3])), (1000006, .live (.cells 0 [.v .str t6_0, .v .str t6_1, .v .str t6_2]))]
theorem monitor_checkModes.f_eq (n : Nat) (t0 : DFWatch) : monitor_checkModes.f n t0 =
 (if (decide ((t0.1.length : Int) = 0)) = true then
 some (9, ())
 else
 (if (decide (50 < (t0.1.length : Int))) = true then
  some (2, ())
  else
  monitor_checkModes.c0 n t0.1 t0.2.1 t0.2.2.1 t0.2.2.2 t0.1 (t0.1.length : Int) 0)) := by kernel_rfl
theorem monitor_checkModes.c0_eq (n : Nat) (t1_0 : (List (List UInt8))) (t1_1 : (List DModeChange)) (t1_2 : List UInt8) (t1_3 : (List DFWatchRule)) (t17 : (List (List UInt8))) (t18 : Int) (t19 : Int) : monitor_checkModes.c0 (n + 1) t1_0 t1_1 t1_2 t1_3 t17 t18 t19 =
 (if (decide (t19 < t18)) = true then
 (if (0 : Int) ≤ t19 ∧ t19 < (t17.length : Int) then
  ((monitor_IsName.f n (t17.getD t19.toNat [])).bind fun r1 =>
   (if (!r1.1) = true then
    some (5, ())
    else
    (if (decide (0 < t19)) = true then
     (if (0 : Int) ≤ (IntKind.wrap .i64 (t19 - 1)) ∧ (IntKind.wrap .i64 (t19 - 1)) < (t1_0.length : Int) then
      (if (!(lessS (t1_0.getD (IntKind.wrap .i64 (t19 - 1)).toNat []) (t17.getD t19.toNat []))) = true then
       some (8, ())
       else
       monitor_checkModes.c0 n t1_0 t1_1 t1_2 t1_3 t17 t18 (IntKind.wrap .i64 (t19 + 1)))
      else none)
     else
     monitor_checkModes.c0 n t1_0 t1_1 t1_2 t1_3 t17 t18 (IntKind.wrap .i64 (t19 + 1)))))
  else none)
 else
 (if (decide (500 < (t1_1.length : Int))) = true then
  some (2, ())
  else
  monitor_checkModes.c1 n t1_0 t1_1 t1_2 t1_3 t1_1 (t1_1.length : Int) 0)) := by kernel_rfl
theorem monitor_checkModes.c1_eq (n : Nat) (t1_0 : (List (List UInt8))) (t1_1 : (List DModeChange)) (t1_2 : List UInt8) (t1_3 : (List DFWatchRule)) (t45 : (List DModeChange)) (t46 : Int) (t47 : Int) : monitor_checkModes.c1 (n + 1) t1_0 t1_1 t1_2 t1_3 t45 t46 t47 =
 (if (decide (t47 < t46)) = true then
 (if (0 : Int) ≤ t47 ∧ t47 < (t45.length : Int) then
  ((slices_Contains_string.f n t1_0 (t45.getD t47.toNat (Ty.dflt YModeChange)).1).bind fun r2 =>
   (if (!r2.1) = true then
    some (9, ())
    else
    ((slices_Contains_string.f n t1_0 (t45.getD t47.toNat (Ty.dflt YModeChange)).2.2).bind fun r3 =>
     (if (!r3.1) = true then
      some (9, ())
      else
      monitor_checkModes.c2 n t1_0 t1_1 t1_2 t1_3 t47 (t45.getD t47.toNat (Ty.dflt YModeChange)).1 (t45.getD t47.toNat (Ty.dflt YModeChange)).2.1 (t45.getD t47.toNat (Ty.dflt YModeChange)).2.2 t45 t46 t47))))
  else none)
 else
 ((slices_Contains_string.f n t1_0 t1_2).bind fun r4 =>
  (if (!r4.1) = true then
   some (9, ())
   else
   some (0, ())))) := by kernel_rfl
theorem monitor_checkModes.c2_eq (n : Nat) (t1_0 : (List (List UInt8))) (t1_1 : (List DModeChange)) (t1_2 : List UInt8) (t1_3 : (List DFWatchRule)) (t5 : Int) (t6_0 : List UInt8) (t6_1 : List UInt8) (t6_2 : List UInt8) (t45 : (List DModeChange)) (t46 : Int) (t47 : Int) : monitor_checkModes.c2 (n + 1) t1_0 t1_1 t1_2 t1_3 t5 t6_0 t6_1 t6_2 t45 t46 t47 =
 ((monitor_IsName.f n t6_1).bind fun r5 =>
 (if (!r5.1) = true then
  some (5, ())
  else
  (if (decide (0 < t5)) = true then
   (if (0 : Int) ≤ (IntKind.wrap .i64 (t5 - 1)) ∧ (IntKind.wrap .i64 (t5 - 1)) < (t1_1.length : Int) then
    (if (lessS t6_0 (t1_1.getD (IntKind.wrap .i64 (t5 - 1)).toNat (Ty.dflt YModeChange)).1) = true then
     some (8, ())
     else
     (if (decide ((t6_0 : List UInt8) = (t1_1.getD (IntKind.wrap .i64 (t5 - 1)).toNat (Ty.dflt YModeChange)).1)) = true then
      (if (!(lessS (t1_1.getD (IntKind.wrap .i64 (t5 - 1)).toNat (Ty.dflt YModeChange)).2.1 t6_1)) = true then
       some (8, ())
       else
       monitor_checkModes.c1 n t1_0 t1_1 t1_2 t1_3 t45 t46 (IntKind.wrap .i64 (t47 + 1)))
      else
      monitor_checkModes.c1 n t1_0 t1_1 t1_2 t1_3 t45 t46 (IntKind.wrap .i64 (t47 + 1))))
    else none)
   else
   monitor_checkModes.c1 n t1_0 t1_1 t1_2 t1_3 t45 t46 (IntKind.wrap .i64 (t47 + 1))))) := by kernel_rfl
noncomputable def monitor_checkModes.E (n : Nat) : FunE := fnE tab monitor_checkModes.T monitor_checkModes.ann Tryd.f27 monitor_checkModes.ins monitor_checkModes.outs n

noncomputable def kit_In.T : Nat → Nat → Option FunE := fun n => ofL none []
noncomputable def kit_In.ann : Nat → Option (List Keep) := ofL none []
noncomputable def kit_In.ins : List (Bool × Ty) := [(false, (.int .i64)), (false, (.int .i64)), (false, (.int .i64))]
def kit_In.outs : List Ty := [.bool]
noncomputable def kit_In.f (n : Nat) (n0 : Int) (low1 : Int) (high2 : Int) : Option (Bool × Unit) := (fnE tab kit_In.T kit_In.ann Tryd.f51 kit_In.ins kit_In.outs n).f (n0, (low1, (high2, ())))
theorem kit_In.f_eq (n : Nat) (n0 : Int) (low1 : Int) (high2 : Int) : kit_In.f n n0 low1 high2 =
 (if (decide (low1 ≤ n0)) = true then
 some ((decide (n0 ≤ high2)), ())
 else
 some (false, ())) := by kernel_rfl
noncomputable def kit_In.E (n : Nat) : FunE := fnE tab kit_In.T kit_In.ann Tryd.f51 kit_In.ins kit_In.outs n

noncomputable def monitor_checkRule.T : Nat → Nat → Option FunE := fun n => ofL none [(49, some (monitor_IsName.E n)), (50, some (slices_Contains_string.E n)), (51, some (kit_In.E n))]
noncomputable def monitor_checkRule.ann : Nat → Option (List Keep) := ofL none [(3, some [.obj 2 YFWatch, .obj 3 YFWatchRule]), (5, some [.obj 3 YFWatchRule]), (8, some [.slot 33, .slot 34, .slot 35])]
noncomputable def monitor_checkRule.ins : List (Bool × Ty) := [(false, YFWatch), (false, YFWatchRule)]
def monitor_checkRule.outs : List Ty := [(.int .i64)]
noncomputable def monitor_checkRule.f (n : Nat) (w0 : DFWatch) (r1 : DFWatchRule) : Option (Int × Unit) := (fnE tab monitor_checkRule.T monitor_checkRule.ann Tryd.f28 monitor_checkRule.ins monitor_checkRule.outs n).f (w0, (r1, ()))
noncomputable def monitor_checkRule.c0 (n : Nat) (w2_0 : (List (List UInt8))) (w2_1 : (List DModeChange)) (w2_2 : List UInt8) (w2_3 : (List DFWatchRule)) (r3_0 : List UInt8) (r3_1 : List UInt8) (r3_2 : List UInt8) (r3_3 : Bool) (r3_4 : (List DAct)) : Option (Int × Unit) := cutN tab monitor_checkRule.T monitor_checkRule.ann Tryd.f28 monitor_checkRule.ins monitor_checkRule.outs n [1, 1] [(2, .val false [.ptr 1000002 0]), (3, .val false [.ptr 1000003 0])] [(1000002, .live (.cells 0 [.v (.sl .str) w2_0, .v (.sl YModeChange) w2_1, .v .str w2_2, .v (.sl YFWatchRule) w2_3])), (1000003, .live (.cells 0 [.v .str r3_0, .v .str r3_1, .v .str r3_2, .v .bool r3_3, .v (.sl YAct) r3_4]))]
noncomputable def monitor_checkRule.c1 (n : Nat) (r3_0 : List UInt8) (r3_1 : List UInt8) (r3_2 : List UInt8) (r3_3 : Bool) (r3_4 : (List DAct)) : Option (Int × Unit) := cutN tab monitor_checkRule.T monitor_checkRule.ann Tryd.f28 monitor_checkRule.ins monitor_checkRule.outs n [1, 1, 1] [(3, .val false [.ptr 1000003 0])] [(1000003, .live (.cells 0 [.v .str r3_0, .v .str r3_1, .v .str r3_2, .v .bool r3_3, .v (.sl YAct) r3_4]))]
noncomputable def monitor_checkRule.c2 (n : Nat) (t33 : (List DAct)) (t34 : Int) (t35 : Int) : Option (Int × Unit) := cutN tab monitor_checkRule.T monitor_checkRule.ann Tryd.f28 monitor_checkRule.ins monitor_checkRule.outs n [1, 1, 1, 1, 0, 1, 0] [(33, .val false [.v (.sl YAct) t33]), (34, .val false [.v (.int .i64) t34]), (35, .val false [.v (.int .i64) t35])] []
theorem monitor_checkRule.f_eq (n : Nat) (w0 : DFWatch) (r1 : DFWatchRule) : monitor_checkRule.f n w0 r1 =
 ((monitor_IsName.f n r1.1).bind fun rr1 =>
 (if (!rr1.1) = true then
  some (5, ())
  else
  ((monitor_IsName.f n r1.2.1).bind fun rr2 =>
   (if (!rr2.1) = true then
    some (5, ())
    else
    monitor_checkRule.c0 n w0.1 w0.2.1 w0.2.2.1 w0.2.2.2 r1.1 r1.2.1 r1.2.2.1 r1.2.2.2.1 r1.2.2.2.2)))) := by kernel_rfl
theorem monitor_checkRule.c0_eq (n : Nat) (w2_0 : (List (List UInt8))) (w2_1 : (List DModeChange)) (w2_2 : List UInt8) (w2_3 : (List DFWatchRule)) (r3_0 : List UInt8) (r3_1 : List UInt8) (r3_2 : List UInt8) (r3_3 : Bool) (r3_4 : (List DAct)) : monitor_checkRule.c0 (n + 1) w2_0 w2_1 w2_2 w2_3 r3_0 r3_1 r3_2 r3_3 r3_4 =
 (if (!(decide ((r3_2 : List UInt8) = []))) = true then
 ((slices_Contains_string.f n w2_0 r3_2).bind fun rr3 =>
  (if (!rr3.1) = true then
   some (9, ())
   else
   monitor_checkRule.c1 n r3_0 r3_1 r3_2 r3_3 r3_4))
 else
 monitor_checkRule.c1 n r3_0 r3_1 r3_2 r3_3 r3_4) := by kernel_rfl
theorem monitor_checkRule.c1_eq (n : Nat) (r3_0 : List UInt8) (r3_1 : List UInt8) (r3_2 : List UInt8) (r3_3 : Bool) (r3_4 : (List DAct)) : monitor_checkRule.c1 (n + 1) r3_0 r3_1 r3_2 r3_3 r3_4 =
 (if (decide (10 < (r3_4.length : Int))) = true then
 some (2, ())
 else
 monitor_checkRule.c2 n r3_4 (r3_4.length : Int) 0) := by kernel_rfl
theorem monitor_checkRule.c2_eq (n : Nat) (t33 : (List DAct)) (t34 : Int) (t35 : Int) : monitor_checkRule.c2 (n + 1) t33 t34 t35 =
 (if (decide (t35 < t34)) = true then
 (if (0 : Int) ≤ t35 ∧ t35 < (t33.length : Int) then
  ((kit_In.f n (t33.getD t35.toNat (Ty.dflt YAct)).1 1 4).bind fun rr4 =>
   (if (!rr4.1) = true then
    some (4, ())
    else
    ((monitor_IsName.f n (t33.getD t35.toNat (Ty.dflt YAct)).2.1).bind fun rr5 =>
     (if (!rr5.1) = true then
      some (5, ())
      else
      (if (t33.getD t35.toNat (Ty.dflt YAct)).2.2 = true then
       (if (!(decide ((t33.getD t35.toNat (Ty.dflt YAct)).1 = 4))) = true then
        some (3, ())
        else
        monitor_checkRule.c2 n t33 t34 (IntKind.wrap .i64 (t35 + 1)))
       else
       monitor_checkRule.c2 n t33 t34 (IntKind.wrap .i64 (t35 + 1)))))))
  else none)
 else
 some (0, ())) := by kernel_rfl
noncomputable def monitor_checkRule.E (n : Nat) : FunE := fnE tab monitor_checkRule.T monitor_checkRule.ann Tryd.f28 monitor_checkRule.ins monitor_checkRule.outs n

noncomputable def monitor_CheckWatch.T : Nat → Nat → Option FunE := fun n => ofL none [(27, some (monitor_checkModes.E n)), (28, some (monitor_checkRule.E n))]
noncomputable def monitor_CheckWatch.ann : Nat → Option (List Keep) := ofL none [(8, some [.obj 1 YFWatch, .slot 4, .slot 23, .slot 24, .slot 25]), (18, some [.slot 4, .slot 55, .slot 56, .slot 57]), (21, some [.slot 4, .slot 55, .slot 56, .slot 57, .slot 62, .slot 63, .slot 64])]
noncomputable def monitor_CheckWatch.ins : List (Bool × Ty) := [(false, YFWatch)]
def monitor_CheckWatch.outs : List Ty := [(.int .i64)]
noncomputable def monitor_CheckWatch.f (n : Nat) (t0 : DFWatch) : Option (Int × Unit) := (fnE tab monitor_CheckWatch.T monitor_CheckWatch.ann Tryd.f11 monitor_CheckWatch.ins monitor_CheckWatch.outs n).f (t0, ())
noncomputable def monitor_CheckWatch.c0 (n : Nat) (t1_0 : (List (List UInt8))) (t1_1 : (List DModeChange)) (t1_2 : List UInt8) (t1_3 : (List DFWatchRule)) (t4 : (List (List UInt8 × Bool))) (t23 : (List DFWatchRule)) (t24 : Int) (t25 : Int) : Option (Int × Unit) := cutN tab monitor_CheckWatch.T monitor_CheckWatch.ann Tryd.f11 monitor_CheckWatch.ins monitor_CheckWatch.outs n [1, 1, 1, 1, 0, 1, 0] [(1, .val false [.ptr 1000001 0]), (4, .val false [.mapr 1000004]), (23, .val false [.v (.sl YFWatchRule) t23]), (24, .val false [.v (.int .i64) t24]), (25, .val false [.v (.int .i64) t25])] [(1000001, .live (.cells 0 [.v (.sl .str) t1_0, .v (.sl YModeChange) t1_1, .v .str t1_2, .v (.sl YFWatchRule) t1_3])), (1000004, .live (.mapo .str .bool t4))]
noncomputable def monitor_CheckWatch.c1 (n : Nat) (t4 : (List (List UInt8 × Bool))) (t55 : (List DFWatchRule)) (t56 : Int) (t57 : Int) : Option (Int × Unit) := cutN tab monitor_CheckWatch.T monitor_CheckWatch.ann Tryd.f11 monitor_CheckWatch.ins monitor_CheckWatch.outs n [1, 1, 1, 1, 1, 0, 1, 0] [(4, .val false [.mapr 1000004]), (55, .val false [.v (.sl YFWatchRule) t55]), (56, .val false [.v (.int .i64) t56]), (57, .val false [.v (.int .i64) t57])] [(1000004, .live (.mapo .str .bool t4))]
noncomputable def monitor_CheckWatch.c2 (n : Nat) (t4 : (List (List UInt8 × Bool))) (t55 : (List DFWatchRule)) (t56 : Int) (t57 : Int) (t62 : (List DAct)) (t63 : Int) (t64 : Int) : Option (Int × Unit) := cutN tab monitor_CheckWatch.T monitor_CheckWatch.ann Tryd.f11 monitor_CheckWatch.ins monitor_CheckWatch.outs n [1, 1, 1, 1, 1, 0, 1, 0, 0, 1, 1, 0, 0, 1, 1, 0] [(4, .val false [.mapr 1000004]), (55, .val false [.v (.sl YFWatchRule) t55]), (56, .val false [.v (.int .i64) t56]), (57, .val false [.v (.int .i64) t57]), (62, .val false [.v (.sl YAct) t62]), (63, .val false [.v (.int .i64) t63]), (64, .val false [.v (.int .i64) t64])] [(1000004, .live (.mapo .str .bool t4))]
theorem monitor_CheckWatch.f_eq (n : Nat) (t0 : DFWatch) : monitor_CheckWatch.f n t0 =
 ((monitor_checkModes.f n t0).bind fun r1 =>
 (if (!(decide (r1.1 = 0))) = true then
  some (r1.1, ())
  else
  (if (decide (200 < (t0.2.2.2.length : Int))) = true then
   some (2, ())
   else
   monitor_CheckWatch.c0 n t0.1 t0.2.1 t0.2.2.1 t0.2.2.2 [] t0.2.2.2 (t0.2.2.2.length : Int) 0))) := by kernel_rfl
theorem monitor_CheckWatch.c0_eq (n : Nat) (t1_0 : (List (List UInt8))) (t1_1 : (List DModeChange)) (t1_2 : List UInt8) (t1_3 : (List DFWatchRule)) (t4 : (List (List UInt8 × Bool))) (t23 : (List DFWatchRule)) (t24 : Int) (t25 : Int) : monitor_CheckWatch.c0 (n + 1) t1_0 t1_1 t1_2 t1_3 t4 t23 t24 t25 =
 (if (decide (t25 < t24)) = true then
 (if (0 : Int) ≤ t25 ∧ t25 < (t23.length : Int) then
  ((monitor_checkRule.f n (t1_0, (t1_1, (t1_2, t1_3))) (t23.getD t25.toNat (Ty.dflt YFWatchRule))).bind fun r2 =>
   (if (!(decide (r2.1 = 0))) = true then
    some (r2.1, ())
    else
    (if (decide (0 < t25)) = true then
     (if (0 : Int) ≤ (IntKind.wrap .i64 (t25 - 1)) ∧ (IntKind.wrap .i64 (t25 - 1)) < (t1_3.length : Int) then
      (if (!(lessS (t1_3.getD (IntKind.wrap .i64 (t25 - 1)).toNat (Ty.dflt YFWatchRule)).1 (t23.getD t25.toNat (Ty.dflt YFWatchRule)).1)) = true then
       some (8, ())
       else
       monitor_CheckWatch.c0 n t1_0 t1_1 t1_2 t1_3 (mapPut .str .bool (t23.getD t25.toNat (Ty.dflt YFWatchRule)).1 true t4) t23 t24 (IntKind.wrap .i64 (t25 + 1)))
      else none)
     else
     monitor_CheckWatch.c0 n t1_0 t1_1 t1_2 t1_3 (mapPut .str .bool (t23.getD t25.toNat (Ty.dflt YFWatchRule)).1 true t4) t23 t24 (IntKind.wrap .i64 (t25 + 1)))))
  else none)
 else
 monitor_CheckWatch.c1 n t4 t1_3 (t1_3.length : Int) 0) := by kernel_rfl
theorem monitor_CheckWatch.c1_eq (n : Nat) (t4 : (List (List UInt8 × Bool))) (t55 : (List DFWatchRule)) (t56 : Int) (t57 : Int) : monitor_CheckWatch.c1 (n + 1) t4 t55 t56 t57 =
 (if (decide (t57 < t56)) = true then
 (if (0 : Int) ≤ t57 ∧ t57 < (t55.length : Int) then
  monitor_CheckWatch.c2 n t4 t55 t56 t57 (t55.getD t57.toNat (Ty.dflt YFWatchRule)).2.2.2.2 ((t55.getD t57.toNat (Ty.dflt YFWatchRule)).2.2.2.2.length : Int) 0
  else none)
 else
 some (0, ())) := by kernel_rfl
theorem monitor_CheckWatch.c2_eq (n : Nat) (t4 : (List (List UInt8 × Bool))) (t55 : (List DFWatchRule)) (t56 : Int) (t57 : Int) (t62 : (List DAct)) (t63 : Int) (t64 : Int) : monitor_CheckWatch.c2 (n + 1) t4 t55 t56 t57 t62 t63 t64 =
 (if (decide (t64 < t63)) = true then
 (if (0 : Int) ≤ t64 ∧ t64 < (t62.length : Int) then
  (if (decide ((t62.getD t64.toNat (Ty.dflt YAct)).1 = 2)) = true then
   (if (!(mapGet .str .bool (t62.getD t64.toNat (Ty.dflt YAct)).2.1 t4 false)) = true then
    some (9, ())
    else
    monitor_CheckWatch.c2 n t4 t55 t56 t57 t62 t63 (IntKind.wrap .i64 (t64 + 1)))
   else
   (if (decide ((t62.getD t64.toNat (Ty.dflt YAct)).1 = 3)) = true then
    (if (!(mapGet .str .bool (t62.getD t64.toNat (Ty.dflt YAct)).2.1 t4 false)) = true then
     some (9, ())
     else
     monitor_CheckWatch.c2 n t4 t55 t56 t57 t62 t63 (IntKind.wrap .i64 (t64 + 1)))
    else
    monitor_CheckWatch.c2 n t4 t55 t56 t57 t62 t63 (IntKind.wrap .i64 (t64 + 1))))
  else none)
 else
 monitor_CheckWatch.c1 n t4 t55 t56 (IntKind.wrap .i64 (t57 + 1))) := by kernel_rfl
noncomputable def monitor_CheckWatch.E (n : Nat) : FunE := fnE tab monitor_CheckWatch.T monitor_CheckWatch.ann Tryd.f11 monitor_CheckWatch.ins monitor_CheckWatch.outs n

def wsF (x : List UInt8) (a0 : List UInt8) : Option (List UInt8) := if x.length + a0.length ≤ 1099511627776 then some (x ++ a0) else none
noncomputable def Builder_WriteString.E (n : Nat) : FunE := { ins := [], outs := [], f := fun _ => none, sb := some { tb := 39, eb := 5, fst := true, res := .junk, ins := [(false, .str)], f := fun x xs => wsF x xs.1 } }

def strings_Join.f (n : Nat) (xs : List (List UInt8)) (sep : List UInt8) : Option (List UInt8 × Unit) := if (Lib.join xs sep).length ≤ 140737488355328 ∧ xs.length ≤ 140737488355328 then some (Lib.join xs sep, ()) else none
noncomputable def strings_Join.E (n : Nat) : FunE := { ins := [(false, .sl .str), (false, .str)], outs := [.str], f := fun x => strings_Join.f n x.1 x.2.1 }

def wbF (x : List UInt8) (a0 : Int) : Option (List UInt8) := if x.length + 1 ≤ 1099511627776 ∧ 0 ≤ a0 ∧ a0 < 256 then some (x ++ [UInt8.ofNat a0.toNat]) else none
noncomputable def Builder_WriteByte.E (n : Nat) : FunE := { ins := [], outs := [], f := fun _ => none, sb := some { tb := 39, eb := 5, fst := true, res := .junk, ins := [(false, (.int .u8))], f := fun x xs => wbF x xs.1 } }

noncomputable def monitor_Text_1.T : Nat → Nat → Option FunE := fun n => ofL none [(13, some (Builder_WriteString.E n)), (14, some (strings_Join.E n)), (15, some (Builder_WriteByte.E n))]
noncomputable def monitor_Text_1.ann : Nat → Option (List Keep) := ofL none []
noncomputable def monitor_Text_1.ins : List (Bool × Ty) := [(false, (.sl .str))]
noncomputable def monitor_Text_1.f (n : Nat) (b : List UInt8) (words0 : (List (List UInt8))) : Option (List UInt8) := sbRun tab monitor_Text_1.T monitor_Text_1.ann Tryd.f12 39 5 monitor_Text_1.ins n b (words0, ())
theorem monitor_Text_1.f_eq (n : Nat) (b : List UInt8) (words0 : (List (List UInt8))) : monitor_Text_1.f n b words0 =
 ((strings_Join.f n words0 [32]).bind fun r1 =>
 ((wsF b r1.1).bind fun r2 =>
  ((wbF r2 10).bind fun r3 =>
   some r3))) := by kernel_rfl
noncomputable def monitor_Text_1.E (n : Nat) : FunE := { ins := [], outs := [], f := fun _ => none, sb := some (sbE tab monitor_Text_1.T monitor_Text_1.ann Tryd.f12 39 5 monitor_Text_1.ins n) }

noncomputable def monitor_verb.T : Nat → Nat → Option FunE := fun n => ofL none []
noncomputable def monitor_verb.ann : Nat → Option (List Keep) := ofL none []
noncomputable def monitor_verb.ins : List (Bool × Ty) := [(false, YAct)]
def monitor_verb.outs : List Ty := [.str]
noncomputable def monitor_verb.f (n : Nat) (a0 : DAct) : Option (List UInt8 × Unit) := (fnE tab monitor_verb.T monitor_verb.ann Tryd.f16 monitor_verb.ins monitor_verb.outs n).f (a0, ())
theorem monitor_verb.f_eq (n : Nat) (a0 : DAct) : monitor_verb.f n a0 =
 (if (decide (a0.1 = 1)) = true then
 some ([114, 97, 105, 115, 101], ())
 else
 (if (decide (a0.1 = 2)) = true then
  some ([111, 110], ())
  else
  (if (decide (a0.1 = 3)) = true then
   some ([111, 102, 102], ())
   else
   (if a0.2.2 = true then
    some ([115, 119, 105, 116, 99, 104, 45, 111, 102, 102], ())
    else
    some ([115, 119, 105, 116, 99, 104, 45, 111, 110], ()))))) := by kernel_rfl
noncomputable def monitor_verb.E (n : Nat) : FunE := fnE tab monitor_verb.T monitor_verb.ann Tryd.f16 monitor_verb.ins monitor_verb.outs n

def lnF (x : List UInt8)  : Option (List UInt8) := if x.length ≤ 1099511627776 then some x else none
noncomputable def Builder_Len.E (n : Nat) : FunE := { ins := [], outs := [], f := fun _ => none, sb := some { tb := 39, eb := 5, fst := true, res := .len, ins := [], f := fun x xs => lnF x  } }

def stF (x : List UInt8)  : Option (List UInt8) := if x ≠ [] ∧ x.length ≤ 1099511627776 then some x else none
noncomputable def Builder_String.E (n : Nat) : FunE := { ins := [], outs := [], f := fun _ => none, sb := some { tb := 39, eb := 5, fst := true, res := .str, ins := [], f := fun x xs => stF x  } }

noncomputable def monitor_Text.T : Nat → Nat → Option FunE := fun n => ofL none [(11, some (monitor_CheckWatch.E n)), (12, some (monitor_Text_1.E n)), (16, some (monitor_verb.E n)), (17, some (Builder_Len.E n)), (18, some (Builder_String.E n))]
noncomputable def monitor_Text.ann : Nat → Option (List Keep) := ofL none [(7, some [.clo 6 5, .obj 1 YFWatch, .slot 5, .slot 24, .slot 25, .slot 26]), (12, some [.clo 6 5, .obj 1 YFWatch, .slot 5, .slot 36, .slot 37, .slot 38]), (18, some [.clo 6 5, .slot 5, .slot 58, .slot 59, .slot 60]), (23, some [.clo 6 5, .slot 5, .obj 12 YFWatchRule, .slot 13, .slot 14, .slot 58, .slot 59, .slot 60]), (25, some [.clo 6 5, .slot 5, .obj 12 YFWatchRule, .slot 13, .slot 14, .slot 58, .slot 59, .slot 60]), (27, some [.clo 6 5, .slot 5, .slot 58, .slot 59, .slot 60, .slot 80, .slot 81, .slot 82])]
noncomputable def monitor_Text.ins : List (Bool × Ty) := [(false, YFWatch)]
def monitor_Text.outs : List Ty := [.str, (.int .i64)]
noncomputable def monitor_Text.f (n : Nat) (t0 : DFWatch) : Option (List UInt8 × Int × Unit) := (fnE tab monitor_Text.T monitor_Text.ann Tryd.f5 monitor_Text.ins monitor_Text.outs n).f (t0, ())
noncomputable def monitor_Text.c0 (n : Nat) (t1_0 : (List (List UInt8))) (t1_1 : (List DModeChange)) (t1_2 : List UInt8) (t1_3 : (List DFWatchRule)) (t5 : List UInt8) (t24 : (List (List UInt8))) (t25 : Int) (t26 : Int) : Option (List UInt8 × Int × Unit) := cutN tab monitor_Text.T monitor_Text.ann Tryd.f5 monitor_Text.ins monitor_Text.outs n [1, 1, 1, 1, 0, 1, 0] [(6, .val false [.cloi 12 false 1000005]), (1, .val false [.ptr 1000001 0]), (5, .val false [.itr 1000005]), (24, .val false [.v (.sl .str) t24]), (25, .val false [.v (.int .i64) t25]), (26, .val false [.v (.int .i64) t26])] [(1000001, .live (.cells 0 [.v (.sl .str) t1_0, .v (.sl YModeChange) t1_1, .v .str t1_2, .v (.sl YFWatchRule) t1_3])), (1000005, .live (sbO 39 5 t5))]
noncomputable def monitor_Text.c1 (n : Nat) (t1_0 : (List (List UInt8))) (t1_1 : (List DModeChange)) (t1_2 : List UInt8) (t1_3 : (List DFWatchRule)) (t5 : List UInt8) (t36 : (List DModeChange)) (t37 : Int) (t38 : Int) : Option (List UInt8 × Int × Unit) := cutN tab monitor_Text.T monitor_Text.ann Tryd.f5 monitor_Text.ins monitor_Text.outs n [1, 1, 1, 1, 1, 0, 1, 0] [(6, .val false [.cloi 12 false 1000005]), (1, .val false [.ptr 1000001 0]), (5, .val false [.itr 1000005]), (36, .val false [.v (.sl YModeChange) t36]), (37, .val false [.v (.int .i64) t37]), (38, .val false [.v (.int .i64) t38])] [(1000001, .live (.cells 0 [.v (.sl .str) t1_0, .v (.sl YModeChange) t1_1, .v .str t1_2, .v (.sl YFWatchRule) t1_3])), (1000005, .live (sbO 39 5 t5))]
noncomputable def monitor_Text.c2 (n : Nat) (t5 : List UInt8) (t58 : (List DFWatchRule)) (t59 : Int) (t60 : Int) : Option (List UInt8 × Int × Unit) := cutN tab monitor_Text.T monitor_Text.ann Tryd.f5 monitor_Text.ins monitor_Text.outs n [1, 1, 1, 1, 1, 1, 1, 0, 1, 0] [(6, .val false [.cloi 12 false 1000005]), (5, .val false [.itr 1000005]), (58, .val false [.v (.sl YFWatchRule) t58]), (59, .val false [.v (.int .i64) t59]), (60, .val false [.v (.int .i64) t60])] [(1000005, .live (sbO 39 5 t5))]
noncomputable def monitor_Text.c3 (n : Nat) (t5 : List UInt8) (t12_0 : List UInt8) (t12_1 : List UInt8) (t12_2 : List UInt8) (t12_3 : Bool) (t12_4 : (List DAct)) (t13 : List UInt8) (t14 : List UInt8) (t58 : (List DFWatchRule)) (t59 : Int) (t60 : Int) : Option (List UInt8 × Int × Unit) := cutN tab monitor_Text.T monitor_Text.ann Tryd.f5 monitor_Text.ins monitor_Text.outs n [1, 1, 1, 1, 1, 1, 1, 0, 1, 0, 0, 1, 1, 0, 0, 1, 1, 1] [(6, .val false [.cloi 12 false 1000005]), (5, .val false [.itr 1000005]), (12, .val false [.ptr 1000012 0]), (13, .val false [.v .str t13]), (14, .val false [.v .str t14]), (58, .val false [.v (.sl YFWatchRule) t58]), (59, .val false [.v (.int .i64) t59]), (60, .val false [.v (.int .i64) t60])] [(1000005, .live (sbO 39 5 t5)), (1000012, .live (.cells 0 [.v .str t12_0, .v .str t12_1, .v .str t12_2, .v .bool t12_3, .v (.sl YAct) t12_4]))]
noncomputable def monitor_Text.c4 (n : Nat) (t5 : List UInt8) (t12_0 : List UInt8) (t12_1 : List UInt8) (t12_2 : List UInt8) (t12_3 : Bool) (t12_4 : (List DAct)) (t13 : List UInt8) (t14 : List UInt8) (t58 : (List DFWatchRule)) (t59 : Int) (t60 : Int) : Option (List UInt8 × Int × Unit) := cutN tab monitor_Text.T monitor_Text.ann Tryd.f5 monitor_Text.ins monitor_Text.outs n [1, 1, 1, 1, 1, 1, 1, 0, 1, 0, 0, 1, 1, 0, 0, 1, 1, 1, 1] [(6, .val false [.cloi 12 false 1000005]), (5, .val false [.itr 1000005]), (12, .val false [.ptr 1000012 0]), (13, .val false [.v .str t13]), (14, .val false [.v .str t14]), (58, .val false [.v (.sl YFWatchRule) t58]), (59, .val false [.v (.int .i64) t59]), (60, .val false [.v (.int .i64) t60])] [(1000005, .live (sbO 39 5 t5)), (1000012, .live (.cells 0 [.v .str t12_0, .v .str t12_1, .v .str t12_2, .v .bool t12_3, .v (.sl YAct) t12_4]))]
noncomputable def monitor_Text.c5 (n : Nat) (t5 : List UInt8) (t58 : (List DFWatchRule)) (t59 : Int) (t60 : Int) (t80 : (List DAct)) (t81 : Int) (t82 : Int) : Option (List UInt8 × Int × Unit) := cutN tab monitor_Text.T monitor_Text.ann Tryd.f5 monitor_Text.ins monitor_Text.outs n [1, 1, 1, 1, 1, 1, 1, 0, 1, 0, 0, 1, 1, 0, 0, 1, 1, 1, 1, 1, 1, 0] [(6, .val false [.cloi 12 false 1000005]), (5, .val false [.itr 1000005]), (58, .val false [.v (.sl YFWatchRule) t58]), (59, .val false [.v (.int .i64) t59]), (60, .val false [.v (.int .i64) t60]), (80, .val false [.v (.sl YAct) t80]), (81, .val false [.v (.int .i64) t81]), (82, .val false [.v (.int .i64) t82])] [(1000005, .live (sbO 39 5 t5))]
theorem monitor_Text.f_eq (n : Nat) (t0 : DFWatch) : monitor_Text.f n t0 =
 ((monitor_CheckWatch.f n t0).bind fun r1 =>
 (if (!(decide (r1.1 = 0))) = true then
  some ([], (r1.1, ()))
  else
  monitor_Text.c0 n t0.1 t0.2.1 t0.2.2.1 t0.2.2.2 [] t0.1 (t0.1.length : Int) 0)) := by kernel_rfl
theorem monitor_Text.c0_eq (n : Nat) (t1_0 : (List (List UInt8))) (t1_1 : (List DModeChange)) (t1_2 : List UInt8) (t1_3 : (List DFWatchRule)) (t5 : List UInt8) (t24 : (List (List UInt8))) (t25 : Int) (t26 : Int) : monitor_Text.c0 (n + 1) t1_0 t1_1 t1_2 t1_3 t5 t24 t25 t26 =
 (if (decide (t26 < t25)) = true then
 (if (0 : Int) ≤ t26 ∧ t26 < (t24.length : Int) then
  ((monitor_Text_1.f n t5 [[109, 111, 100, 101], (t24.getD t26.toNat [])]).bind fun r2 =>
   monitor_Text.c0 n t1_0 t1_1 t1_2 t1_3 r2 t24 t25 (IntKind.wrap .i64 (t26 + 1)))
  else none)
 else
 monitor_Text.c1 n t1_0 t1_1 t1_2 t1_3 t5 t1_1 (t1_1.length : Int) 0) := by kernel_rfl
theorem monitor_Text.c1_eq (n : Nat) (t1_0 : (List (List UInt8))) (t1_1 : (List DModeChange)) (t1_2 : List UInt8) (t1_3 : (List DFWatchRule)) (t5 : List UInt8) (t36 : (List DModeChange)) (t37 : Int) (t38 : Int) : monitor_Text.c1 (n + 1) t1_0 t1_1 t1_2 t1_3 t5 t36 t37 t38 =
 (if (decide (t38 < t37)) = true then
 (if (0 : Int) ≤ t38 ∧ t38 < (t36.length : Int) then
  ((monitor_Text_1.f n t5 [[99, 104, 97, 110, 103, 101], (t36.getD t38.toNat (Ty.dflt YModeChange)).1, (t36.getD t38.toNat (Ty.dflt YModeChange)).2.1, (t36.getD t38.toNat (Ty.dflt YModeChange)).2.2]).bind fun r3 =>
   monitor_Text.c1 n t1_0 t1_1 t1_2 t1_3 r3 t36 t37 (IntKind.wrap .i64 (t38 + 1)))
  else none)
 else
 ((monitor_Text_1.f n t5 [[98, 101, 103, 105, 110], t1_2]).bind fun r4 =>
  monitor_Text.c2 n r4 t1_3 (t1_3.length : Int) 0)) := by kernel_rfl
theorem monitor_Text.c2_eq (n : Nat) (t5 : List UInt8) (t58 : (List DFWatchRule)) (t59 : Int) (t60 : Int) : monitor_Text.c2 (n + 1) t5 t58 t59 t60 =
 (if (decide (t60 < t59)) = true then
 (if (0 : Int) ≤ t60 ∧ t60 < (t58.length : Int) then
  (if (decide (((t58.getD t60.toNat (Ty.dflt YFWatchRule)).2.2.1 : List UInt8) = [])) = true then
   monitor_Text.c3 n t5 (t58.getD t60.toNat (Ty.dflt YFWatchRule)).1 (t58.getD t60.toNat (Ty.dflt YFWatchRule)).2.1 (t58.getD t60.toNat (Ty.dflt YFWatchRule)).2.2.1 (t58.getD t60.toNat (Ty.dflt YFWatchRule)).2.2.2.1 (t58.getD t60.toNat (Ty.dflt YFWatchRule)).2.2.2.2 [42] [97, 108, 119, 97, 121, 115] t58 t59 t60
   else
   monitor_Text.c3 n t5 (t58.getD t60.toNat (Ty.dflt YFWatchRule)).1 (t58.getD t60.toNat (Ty.dflt YFWatchRule)).2.1 (t58.getD t60.toNat (Ty.dflt YFWatchRule)).2.2.1 (t58.getD t60.toNat (Ty.dflt YFWatchRule)).2.2.2.1 (t58.getD t60.toNat (Ty.dflt YFWatchRule)).2.2.2.2 (t58.getD t60.toNat (Ty.dflt YFWatchRule)).2.2.1 [97, 108, 119, 97, 121, 115] t58 t59 t60)
  else none)
 else
 ((lnF t5).bind fun r5 =>
  (if (decide (200000 < (r5.length : Int))) = true then
   some ([], (2, ()))
   else
   ((stF r5).bind fun r6 =>
    some (r6, (0, ())))))) := by kernel_rfl
theorem monitor_Text.c3_eq (n : Nat) (t5 : List UInt8) (t12_0 : List UInt8) (t12_1 : List UInt8) (t12_2 : List UInt8) (t12_3 : Bool) (t12_4 : (List DAct)) (t13 : List UInt8) (t14 : List UInt8) (t58 : (List DFWatchRule)) (t59 : Int) (t60 : Int) : monitor_Text.c3 (n + 1) t5 t12_0 t12_1 t12_2 t12_3 t12_4 t13 t14 t58 t59 t60 =
 (if t12_3 = true then
 monitor_Text.c4 n t5 t12_0 t12_1 t12_2 t12_3 t12_4 t13 [111, 110, 99, 101] t58 t59 t60
 else
 monitor_Text.c4 n t5 t12_0 t12_1 t12_2 t12_3 t12_4 t13 t14 t58 t59 t60) := by kernel_rfl
theorem monitor_Text.c4_eq (n : Nat) (t5 : List UInt8) (t12_0 : List UInt8) (t12_1 : List UInt8) (t12_2 : List UInt8) (t12_3 : Bool) (t12_4 : (List DAct)) (t13 : List UInt8) (t14 : List UInt8) (t58 : (List DFWatchRule)) (t59 : Int) (t60 : Int) : monitor_Text.c4 (n + 1) t5 t12_0 t12_1 t12_2 t12_3 t12_4 t13 t14 t58 t59 t60 =
 ((monitor_Text_1.f n t5 [[114, 117, 108, 101], t12_0, t12_1, t13, t14]).bind fun r7 =>
 monitor_Text.c5 n r7 t58 t59 t60 t12_4 (t12_4.length : Int) 0) := by kernel_rfl
theorem monitor_Text.c5_eq (n : Nat) (t5 : List UInt8) (t58 : (List DFWatchRule)) (t59 : Int) (t60 : Int) (t80 : (List DAct)) (t81 : Int) (t82 : Int) : monitor_Text.c5 (n + 1) t5 t58 t59 t60 t80 t81 t82 =
 (if (decide (t82 < t81)) = true then
 (if (0 : Int) ≤ t82 ∧ t82 < (t80.length : Int) then
  ((monitor_verb.f n (t80.getD t82.toNat (Ty.dflt YAct))).bind fun r8 =>
   ((monitor_Text_1.f n t5 [r8.1, (t80.getD t82.toNat (Ty.dflt YAct)).2.1]).bind fun r9 =>
    monitor_Text.c5 n r9 t58 t59 t60 t80 t81 (IntKind.wrap .i64 (t82 + 1))))
  else none)
 else
 monitor_Text.c2 n t5 t58 t59 (IntKind.wrap .i64 (t60 + 1))) := by kernel_rfl
noncomputable def monitor_Text.E (n : Nat) : FunE := fnE tab monitor_Text.T monitor_Text.ann Tryd.f5 monitor_Text.ins monitor_Text.outs n

def strings_IndexByte.f (n : Nat) (s : List UInt8) (c : Int) : Option (Int × Unit) := if s.length ≤ 4611686018427387904 then some (Lib.indexByte s c.toNat.toUInt8, ()) else none
noncomputable def strings_IndexByte.E (n : Nat) : FunE := { ins := [(false, .str), (false, .int .u8)], outs := [.int .i64], f := fun x => strings_IndexByte.f n x.1 x.2.1 }

noncomputable def kit_Lines.T : Nat → Nat → Option FunE := fun n => ofL none [(20, some (monitor_reader_take.E n)), (31, some (strings_IndexByte.E n))]
noncomputable def kit_Lines.ann : Nat → Option (List Keep) := ofL none [(2, some [.slot 0, .obj 1 (.pair (.vec .str) (.pair (.vec YModeChange) (.pair .str (.pair (.vec YWatchRule) .bool)))), .slot 5])]
noncomputable def kit_Lines.ins : List (Bool × Ty) := [(false, .str), (true, (.clo 20 true Yreader))]
def kit_Lines.outs : List Ty := [(.int .i64)]
noncomputable def kit_Lines.f (n : Nat) (text0 : List UInt8) (take1 : Dreader) : Option (Int × Dreader × Unit) := (fnE tab kit_Lines.T kit_Lines.ann Tryd.f19 kit_Lines.ins kit_Lines.outs n).f (text0, (take1, ()))
noncomputable def kit_Lines.c0 (n : Nat) (text0 : List UInt8) (take1_0 : (List (List UInt8))) (take1_1 : (List DModeChange)) (take1_2 : List UInt8) (take1_3 : (List DWatchRule)) (take1_4 : Bool) (n5 : Int) : Option (Int × Dreader × Unit) := cutN tab kit_Lines.T kit_Lines.ann Tryd.f19 kit_Lines.ins kit_Lines.outs n [1, 0, 1, 0] [(0, .val false [.v .str text0]), (1, .val false [.clo 20 true 1000001]), (5, .val false [.v (.int .i64) n5])] [(1000001, .live (.cells 1 [.v (.vec .str) take1_0, .v (.vec YModeChange) take1_1, .v .str take1_2, .v (.vec YWatchRule) take1_3, .v .bool take1_4]))]
theorem kit_Lines.f_eq (n : Nat) (text0 : List UInt8) (take1 : Dreader) : kit_Lines.f n text0 take1 =
 kit_Lines.c0 n text0 take1.1.1 take1.1.2.1 take1.1.2.2.1 take1.1.2.2.2 take1.2 1 := by kernel_rfl
theorem kit_Lines.c0_eq (n : Nat) (text0 : List UInt8) (take1_0 : (List (List UInt8))) (take1_1 : (List DModeChange)) (take1_2 : List UInt8) (take1_3 : (List DWatchRule)) (take1_4 : Bool) (n5 : Int) : kit_Lines.c0 (n + 1) text0 take1_0 take1_1 take1_2 take1_3 take1_4 n5 =
 (if (!(decide ((text0 : List UInt8) = []))) = true then
 ((strings_IndexByte.f n text0 10).bind fun r1 =>
  (if (decide (r1.1 < 0)) = true then
   some (n5, (((take1_0, (take1_1, (take1_2, take1_3))), take1_4), ()))
   else
   (if (0 : Int) ≤ 0 ∧ (0 : Int) ≤ r1.1 ∧ (r1.1 : Int) ≤ (text0.length : Int) then
    ((monitor_reader_take.f n ((take1_0, (take1_1, (take1_2, take1_3))), take1_4) ((text0.take r1.1.toNat).drop 0)).bind fun r2 =>
     (if (!r2.1) = true then
      some (n5, (r2.2.1, ()))
      else
      (if (0 : Int) ≤ (IntKind.wrap .i64 (r1.1 + 1)) ∧ ((IntKind.wrap .i64 (r1.1 + 1)) : Int) ≤ (text0.length : Int) ∧ ((text0.length : Int) : Int) ≤ (text0.length : Int) then
       kit_Lines.c0 n ((text0.take text0.length).drop (IntKind.wrap .i64 (r1.1 + 1)).toNat) r2.2.1.1.1 r2.2.1.1.2.1 r2.2.1.1.2.2.1 r2.2.1.1.2.2.2 r2.2.1.2 (IntKind.wrap .i64 (n5 + 1))
       else none)))
    else none)))
 else
 some (0, (((take1_0, (take1_1, (take1_2, take1_3))), take1_4), ()))) := by kernel_rfl
noncomputable def kit_Lines.E (n : Nat) : FunE := fnE tab kit_Lines.T kit_Lines.ann Tryd.f19 kit_Lines.ins kit_Lines.outs n

noncomputable def monitor_Read.T : Nat → Nat → Option FunE := fun n => ofL none [(11, some (monitor_CheckWatch.E n)), (19, some (kit_Lines.E n)), (21, some (strings_Count.E n))]
noncomputable def monitor_Read.ann : Nat → Option (List Keep) := ofL none [(7, some [.obj 2 YWatch, .obj 5 (.pair (.vec .str) (.pair (.vec YModeChange) (.pair .str (.pair (.vec YWatchRule) .bool)))), .slot 6])]
noncomputable def monitor_Read.ins : List (Bool × Ty) := [(false, .str)]
def monitor_Read.outs : List Ty := [YFWatch, (.int .i64), (.int .i64)]
noncomputable def monitor_Read.f (n : Nat) (text0 : List UInt8) : Option (DFWatch × Int × Int × Unit) := (fnE tab monitor_Read.T monitor_Read.ann Tryd.f6 monitor_Read.ins monitor_Read.outs n).f (text0, ())
noncomputable def monitor_Read.c0 (n : Nat) (t2_0 : (List (List UInt8))) (t2_1 : (List DModeChange)) (t2_2 : List UInt8) (t2_3 : (List DWatchRule)) (r5_0 : (List (List UInt8))) (r5_1 : (List DModeChange)) (r5_2 : List UInt8) (r5_3 : (List DWatchRule)) (r5_4 : Bool) (n6 : Int) : Option (DFWatch × Int × Int × Unit) := cutN tab monitor_Read.T monitor_Read.ann Tryd.f6 monitor_Read.ins monitor_Read.outs n [1, 1, 1, 1, 1] [(2, .val false [.ptr 1000002 0]), (5, .val false [.ptr 1000005 0]), (6, .val false [.v (.int .i64) n6])] [(1000002, .live (.cells 0 [.v (.vec .str) t2_0, .v (.vec YModeChange) t2_1, .v .str t2_2, .v (.vec YWatchRule) t2_3])), (1000005, .live (.cells 0 [.v (.vec .str) r5_0, .v (.vec YModeChange) r5_1, .v .str r5_2, .v (.vec YWatchRule) r5_3, .v .bool r5_4]))]
theorem monitor_Read.f_eq (n : Nat) (text0 : List UInt8) : monitor_Read.f n text0 =
 (if (decide (200000 < (text0.length : Int))) = true then
 some (([], ([], ([], []))), (0, (2, ())))
 else
 ((kit_Lines.f n text0 (([], ([], ([], []))), false)).bind fun rr1 =>
  (if (decide (rr1.1 = 0)) = true then
   (if (!rr1.2.1.2) = true then
    ((strings_Count.f n text0 [10]).bind fun rr2 =>
     monitor_Read.c0 n [] [] [] [] rr1.2.1.1.1 rr1.2.1.1.2.1 rr1.2.1.1.2.2.1 rr1.2.1.1.2.2.2 rr1.2.1.2 (IntKind.wrap .i64 (rr2.1 + 1)))
    else
    monitor_Read.c0 n [] [] [] [] rr1.2.1.1.1 rr1.2.1.1.2.1 rr1.2.1.1.2.2.1 rr1.2.1.1.2.2.2 rr1.2.1.2 rr1.1)
   else
   monitor_Read.c0 n [] [] [] [] rr1.2.1.1.1 rr1.2.1.1.2.1 rr1.2.1.1.2.2.1 rr1.2.1.1.2.2.2 rr1.2.1.2 rr1.1))) := by kernel_rfl
theorem monitor_Read.c0_eq (n : Nat) (t2_0 : (List (List UInt8))) (t2_1 : (List DModeChange)) (t2_2 : List UInt8) (t2_3 : (List DWatchRule)) (r5_0 : (List (List UInt8))) (r5_1 : (List DModeChange)) (r5_2 : List UInt8) (r5_3 : (List DWatchRule)) (r5_4 : Bool) (n6 : Int) : monitor_Read.c0 (n + 1) t2_0 t2_1 t2_2 t2_3 r5_0 r5_1 r5_2 r5_3 r5_4 n6 =
 (if (decide (0 < n6)) = true then
 some (([], ([], ([], []))), (n6, (10, ())))
 else
 ((monitor_CheckWatch.f n (r5_0, (r5_1, (r5_2, (List.map (Ty.conv YWatchRule) r5_3))))).bind fun rr3 =>
  (if (!(decide (rr3.1 = 0))) = true then
   some (([], ([], ([], []))), (0, (rr3.1, ())))
   else
   some ((r5_0, (r5_1, (r5_2, (List.map (Ty.conv YWatchRule) r5_3)))), (0, (0, ())))))) := by kernel_rfl
noncomputable def monitor_Read.E (n : Nat) : FunE := fnE tab monitor_Read.T monitor_Read.ann Tryd.f6 monitor_Read.ins monitor_Read.outs n

noncomputable def perigeeref8_SameWatch.T : Nat → Nat → Option FunE := fun n => ofL none []
noncomputable def perigeeref8_SameWatch.ann : Nat → Option (List Keep) := ofL none [(3, some [.obj 2 YFWatch, .obj 3 YFWatch]), (4, some [.obj 2 YFWatch, .obj 3 YFWatch, .slot 5]), (9, some [.obj 2 YFWatch, .obj 3 YFWatch, .slot 6]), (14, some [.obj 2 YFWatch, .obj 3 YFWatch, .slot 7]), (19, some [.obj 2 YFWatch, .obj 3 YFWatch, .slot 7, .obj 8 YFWatchRule, .obj 9 YFWatchRule]), (20, some [.obj 2 YFWatch, .obj 3 YFWatch, .slot 7, .obj 8 YFWatchRule, .obj 9 YFWatchRule, .slot 10])]
noncomputable def perigeeref8_SameWatch.ins : List (Bool × Ty) := [(false, YFWatch), (false, YFWatch)]
def perigeeref8_SameWatch.outs : List Ty := [.bool]
noncomputable def perigeeref8_SameWatch.f (n : Nat) (t0 : DFWatch) (t1 : DFWatch) : Option (Bool × Unit) := (fnE tab perigeeref8_SameWatch.T perigeeref8_SameWatch.ann Tryd.f7 perigeeref8_SameWatch.ins perigeeref8_SameWatch.outs n).f (t0, (t1, ()))
noncomputable def perigeeref8_SameWatch.c0 (n : Nat) (t2_0 : (List (List UInt8))) (t2_1 : (List DModeChange)) (t2_2 : List UInt8) (t2_3 : (List DFWatchRule)) (t3_0 : (List (List UInt8))) (t3_1 : (List DModeChange)) (t3_2 : List UInt8) (t3_3 : (List DFWatchRule)) : Option (Bool × Unit) := cutN tab perigeeref8_SameWatch.T perigeeref8_SameWatch.ann Tryd.f7 perigeeref8_SameWatch.ins perigeeref8_SameWatch.outs n [1, 1] [(2, .val false [.ptr 1000002 0]), (3, .val false [.ptr 1000003 0])] [(1000002, .live (.cells 0 [.v (.sl .str) t2_0, .v (.sl YModeChange) t2_1, .v .str t2_2, .v (.sl YFWatchRule) t2_3])), (1000003, .live (.cells 0 [.v (.sl .str) t3_0, .v (.sl YModeChange) t3_1, .v .str t3_2, .v (.sl YFWatchRule) t3_3]))]
noncomputable def perigeeref8_SameWatch.c1 (n : Nat) (t2_0 : (List (List UInt8))) (t2_1 : (List DModeChange)) (t2_2 : List UInt8) (t2_3 : (List DFWatchRule)) (t3_0 : (List (List UInt8))) (t3_1 : (List DModeChange)) (t3_2 : List UInt8) (t3_3 : (List DFWatchRule)) (t5 : Int) : Option (Bool × Unit) := cutN tab perigeeref8_SameWatch.T perigeeref8_SameWatch.ann Tryd.f7 perigeeref8_SameWatch.ins perigeeref8_SameWatch.outs n [1, 1, 0, 1, 0] [(2, .val false [.ptr 1000002 0]), (3, .val false [.ptr 1000003 0]), (5, .val false [.v (.int .i64) t5])] [(1000002, .live (.cells 0 [.v (.sl .str) t2_0, .v (.sl YModeChange) t2_1, .v .str t2_2, .v (.sl YFWatchRule) t2_3])), (1000003, .live (.cells 0 [.v (.sl .str) t3_0, .v (.sl YModeChange) t3_1, .v .str t3_2, .v (.sl YFWatchRule) t3_3]))]
noncomputable def perigeeref8_SameWatch.c2 (n : Nat) (t2_0 : (List (List UInt8))) (t2_1 : (List DModeChange)) (t2_2 : List UInt8) (t2_3 : (List DFWatchRule)) (t3_0 : (List (List UInt8))) (t3_1 : (List DModeChange)) (t3_2 : List UInt8) (t3_3 : (List DFWatchRule)) (t6 : Int) : Option (Bool × Unit) := cutN tab perigeeref8_SameWatch.T perigeeref8_SameWatch.ann Tryd.f7 perigeeref8_SameWatch.ins perigeeref8_SameWatch.outs n [1, 1, 1, 0, 1, 0] [(2, .val false [.ptr 1000002 0]), (3, .val false [.ptr 1000003 0]), (6, .val false [.v (.int .i64) t6])] [(1000002, .live (.cells 0 [.v (.sl .str) t2_0, .v (.sl YModeChange) t2_1, .v .str t2_2, .v (.sl YFWatchRule) t2_3])), (1000003, .live (.cells 0 [.v (.sl .str) t3_0, .v (.sl YModeChange) t3_1, .v .str t3_2, .v (.sl YFWatchRule) t3_3]))]
noncomputable def perigeeref8_SameWatch.c3 (n : Nat) (t2_0 : (List (List UInt8))) (t2_1 : (List DModeChange)) (t2_2 : List UInt8) (t2_3 : (List DFWatchRule)) (t3_0 : (List (List UInt8))) (t3_1 : (List DModeChange)) (t3_2 : List UInt8) (t3_3 : (List DFWatchRule)) (t7 : Int) : Option (Bool × Unit) := cutN tab perigeeref8_SameWatch.T perigeeref8_SameWatch.ann Tryd.f7 perigeeref8_SameWatch.ins perigeeref8_SameWatch.outs n [1, 1, 1, 1, 0, 1, 0] [(2, .val false [.ptr 1000002 0]), (3, .val false [.ptr 1000003 0]), (7, .val false [.v (.int .i64) t7])] [(1000002, .live (.cells 0 [.v (.sl .str) t2_0, .v (.sl YModeChange) t2_1, .v .str t2_2, .v (.sl YFWatchRule) t2_3])), (1000003, .live (.cells 0 [.v (.sl .str) t3_0, .v (.sl YModeChange) t3_1, .v .str t3_2, .v (.sl YFWatchRule) t3_3]))]
noncomputable def perigeeref8_SameWatch.c4 (n : Nat) (t2_0 : (List (List UInt8))) (t2_1 : (List DModeChange)) (t2_2 : List UInt8) (t2_3 : (List DFWatchRule)) (t3_0 : (List (List UInt8))) (t3_1 : (List DModeChange)) (t3_2 : List UInt8) (t3_3 : (List DFWatchRule)) (t7 : Int) (t8_0 : List UInt8) (t8_1 : List UInt8) (t8_2 : List UInt8) (t8_3 : Bool) (t8_4 : (List DAct)) (t9_0 : List UInt8) (t9_1 : List UInt8) (t9_2 : List UInt8) (t9_3 : Bool) (t9_4 : (List DAct)) : Option (Bool × Unit) := cutN tab perigeeref8_SameWatch.T perigeeref8_SameWatch.ann Tryd.f7 perigeeref8_SameWatch.ins perigeeref8_SameWatch.outs n [1, 1, 1, 1, 0, 1, 0, 0, 1, 0, 0, 1, 1] [(2, .val false [.ptr 1000002 0]), (3, .val false [.ptr 1000003 0]), (7, .val false [.v (.int .i64) t7]), (8, .val false [.ptr 1000008 0]), (9, .val false [.ptr 1000009 0])] [(1000002, .live (.cells 0 [.v (.sl .str) t2_0, .v (.sl YModeChange) t2_1, .v .str t2_2, .v (.sl YFWatchRule) t2_3])), (1000003, .live (.cells 0 [.v (.sl .str) t3_0, .v (.sl YModeChange) t3_1, .v .str t3_2, .v (.sl YFWatchRule) t3_3])), (1000008, .live (.cells 0 [.v .str t8_0, .v .str t8_1, .v .str t8_2, .v .bool t8_3, .v (.sl YAct) t8_4])), (1000009, .live (.cells 0 [.v .str t9_0, .v .str t9_1, .v .str t9_2, .v .bool t9_3, .v (.sl YAct) t9_4]))]
noncomputable def perigeeref8_SameWatch.c5 (n : Nat) (t2_0 : (List (List UInt8))) (t2_1 : (List DModeChange)) (t2_2 : List UInt8) (t2_3 : (List DFWatchRule)) (t3_0 : (List (List UInt8))) (t3_1 : (List DModeChange)) (t3_2 : List UInt8) (t3_3 : (List DFWatchRule)) (t7 : Int) (t8_0 : List UInt8) (t8_1 : List UInt8) (t8_2 : List UInt8) (t8_3 : Bool) (t8_4 : (List DAct)) (t9_0 : List UInt8) (t9_1 : List UInt8) (t9_2 : List UInt8) (t9_3 : Bool) (t9_4 : (List DAct)) (t10 : Int) : Option (Bool × Unit) := cutN tab perigeeref8_SameWatch.T perigeeref8_SameWatch.ann Tryd.f7 perigeeref8_SameWatch.ins perigeeref8_SameWatch.outs n [1, 1, 1, 1, 0, 1, 0, 0, 1, 0, 0, 1, 1, 1, 0] [(2, .val false [.ptr 1000002 0]), (3, .val false [.ptr 1000003 0]), (7, .val false [.v (.int .i64) t7]), (8, .val false [.ptr 1000008 0]), (9, .val false [.ptr 1000009 0]), (10, .val false [.v (.int .i64) t10])] [(1000002, .live (.cells 0 [.v (.sl .str) t2_0, .v (.sl YModeChange) t2_1, .v .str t2_2, .v (.sl YFWatchRule) t2_3])), (1000003, .live (.cells 0 [.v (.sl .str) t3_0, .v (.sl YModeChange) t3_1, .v .str t3_2, .v (.sl YFWatchRule) t3_3])), (1000008, .live (.cells 0 [.v .str t8_0, .v .str t8_1, .v .str t8_2, .v .bool t8_3, .v (.sl YAct) t8_4])), (1000009, .live (.cells 0 [.v .str t9_0, .v .str t9_1, .v .str t9_2, .v .bool t9_3, .v (.sl YAct) t9_4]))]
theorem perigeeref8_SameWatch.f_eq (n : Nat) (t0 : DFWatch) (t1 : DFWatch) : perigeeref8_SameWatch.f n t0 t1 =
 (if (!(decide ((t0.2.2.1 : List UInt8) = t1.2.2.1))) = true then
 some (false, ())
 else
 (if (!(decide ((t0.1.length : Int) = (t1.1.length : Int)))) = true then
  some (false, ())
  else
  (if (!(decide ((t0.2.1.length : Int) = (t1.2.1.length : Int)))) = true then
   some (false, ())
   else
   (if (!(decide ((t0.2.2.2.length : Int) = (t1.2.2.2.length : Int)))) = true then
    some (false, ())
    else
    perigeeref8_SameWatch.c0 n t0.1 t0.2.1 t0.2.2.1 t0.2.2.2 t1.1 t1.2.1 t1.2.2.1 t1.2.2.2)))) := by kernel_rfl
theorem perigeeref8_SameWatch.c0_eq (n : Nat) (t2_0 : (List (List UInt8))) (t2_1 : (List DModeChange)) (t2_2 : List UInt8) (t2_3 : (List DFWatchRule)) (t3_0 : (List (List UInt8))) (t3_1 : (List DModeChange)) (t3_2 : List UInt8) (t3_3 : (List DFWatchRule)) : perigeeref8_SameWatch.c0 (n + 1) t2_0 t2_1 t2_2 t2_3 t3_0 t3_1 t3_2 t3_3 =
 perigeeref8_SameWatch.c1 n t2_0 t2_1 t2_2 t2_3 t3_0 t3_1 t3_2 t3_3 0 := by kernel_rfl
theorem perigeeref8_SameWatch.c1_eq (n : Nat) (t2_0 : (List (List UInt8))) (t2_1 : (List DModeChange)) (t2_2 : List UInt8) (t2_3 : (List DFWatchRule)) (t3_0 : (List (List UInt8))) (t3_1 : (List DModeChange)) (t3_2 : List UInt8) (t3_3 : (List DFWatchRule)) (t5 : Int) : perigeeref8_SameWatch.c1 (n + 1) t2_0 t2_1 t2_2 t2_3 t3_0 t3_1 t3_2 t3_3 t5 =
 (if (decide (t5 < (t2_0.length : Int))) = true then
 (if (0 : Int) ≤ t5 ∧ t5 < (t2_0.length : Int) then
  (if (0 : Int) ≤ t5 ∧ t5 < (t3_0.length : Int) then
   (if (!(decide (((t2_0.getD t5.toNat []) : List UInt8) = (t3_0.getD t5.toNat [])))) = true then
    some (false, ())
    else
    perigeeref8_SameWatch.c1 n t2_0 t2_1 t2_2 t2_3 t3_0 t3_1 t3_2 t3_3 (IntKind.wrap .i64 (t5 + 1)))
   else none)
  else none)
 else
 perigeeref8_SameWatch.c2 n t2_0 t2_1 t2_2 t2_3 t3_0 t3_1 t3_2 t3_3 0) := by kernel_rfl
theorem perigeeref8_SameWatch.c2_eq (n : Nat) (t2_0 : (List (List UInt8))) (t2_1 : (List DModeChange)) (t2_2 : List UInt8) (t2_3 : (List DFWatchRule)) (t3_0 : (List (List UInt8))) (t3_1 : (List DModeChange)) (t3_2 : List UInt8) (t3_3 : (List DFWatchRule)) (t6 : Int) : perigeeref8_SameWatch.c2 (n + 1) t2_0 t2_1 t2_2 t2_3 t3_0 t3_1 t3_2 t3_3 t6 =
 (if (decide (t6 < (t2_1.length : Int))) = true then
 (if (0 : Int) ≤ t6 ∧ t6 < (t2_1.length : Int) then
  (if (0 : Int) ≤ t6 ∧ t6 < (t3_1.length : Int) then
   (if (!(eqV YModeChange (t2_1.getD t6.toNat (Ty.dflt YModeChange)) (t3_1.getD t6.toNat (Ty.dflt YModeChange)))) = true then
    some (false, ())
    else
    perigeeref8_SameWatch.c2 n t2_0 t2_1 t2_2 t2_3 t3_0 t3_1 t3_2 t3_3 (IntKind.wrap .i64 (t6 + 1)))
   else none)
  else none)
 else
 perigeeref8_SameWatch.c3 n t2_0 t2_1 t2_2 t2_3 t3_0 t3_1 t3_2 t3_3 0) := by kernel_rfl
theorem perigeeref8_SameWatch.c3_eq (n : Nat) (t2_0 : (List (List UInt8))) (t2_1 : (List DModeChange)) (t2_2 : List UInt8) (t2_3 : (List DFWatchRule)) (t3_0 : (List (List UInt8))) (t3_1 : (List DModeChange)) (t3_2 : List UInt8) (t3_3 : (List DFWatchRule)) (t7 : Int) : perigeeref8_SameWatch.c3 (n + 1) t2_0 t2_1 t2_2 t2_3 t3_0 t3_1 t3_2 t3_3 t7 =
 (if (decide (t7 < (t2_3.length : Int))) = true then
 (if (0 : Int) ≤ t7 ∧ t7 < (t2_3.length : Int) then
  (if (0 : Int) ≤ t7 ∧ t7 < (t3_3.length : Int) then
   (if (!(decide (((t2_3.getD t7.toNat (Ty.dflt YFWatchRule)).1 : List UInt8) = (t3_3.getD t7.toNat (Ty.dflt YFWatchRule)).1))) = true then
    some (false, ())
    else
    (if (!(decide (((t2_3.getD t7.toNat (Ty.dflt YFWatchRule)).2.1 : List UInt8) = (t3_3.getD t7.toNat (Ty.dflt YFWatchRule)).2.1))) = true then
     some (false, ())
     else
     (if (!(decide (((t2_3.getD t7.toNat (Ty.dflt YFWatchRule)).2.2.1 : List UInt8) = (t3_3.getD t7.toNat (Ty.dflt YFWatchRule)).2.2.1))) = true then
      some (false, ())
      else
      (if (!(decide ((t2_3.getD t7.toNat (Ty.dflt YFWatchRule)).2.2.2.1 = (t3_3.getD t7.toNat (Ty.dflt YFWatchRule)).2.2.2.1))) = true then
       some (false, ())
       else
       (if (!(decide (((t2_3.getD t7.toNat (Ty.dflt YFWatchRule)).2.2.2.2.length : Int) = ((t3_3.getD t7.toNat (Ty.dflt YFWatchRule)).2.2.2.2.length : Int)))) = true then
        some (false, ())
        else
        perigeeref8_SameWatch.c4 n t2_0 t2_1 t2_2 t2_3 t3_0 t3_1 t3_2 t3_3 t7 (t2_3.getD t7.toNat (Ty.dflt YFWatchRule)).1 (t2_3.getD t7.toNat (Ty.dflt YFWatchRule)).2.1 (t2_3.getD t7.toNat (Ty.dflt YFWatchRule)).2.2.1 (t2_3.getD t7.toNat (Ty.dflt YFWatchRule)).2.2.2.1 (t2_3.getD t7.toNat (Ty.dflt YFWatchRule)).2.2.2.2 (t3_3.getD t7.toNat (Ty.dflt YFWatchRule)).1 (t3_3.getD t7.toNat (Ty.dflt YFWatchRule)).2.1 (t3_3.getD t7.toNat (Ty.dflt YFWatchRule)).2.2.1 (t3_3.getD t7.toNat (Ty.dflt YFWatchRule)).2.2.2.1 (t3_3.getD t7.toNat (Ty.dflt YFWatchRule)).2.2.2.2)))))
   else none)
  else none)
 else
 some (true, ())) := by kernel_rfl
theorem perigeeref8_SameWatch.c4_eq (n : Nat) (t2_0 : (List (List UInt8))) (t2_1 : (List DModeChange)) (t2_2 : List UInt8) (t2_3 : (List DFWatchRule)) (t3_0 : (List (List UInt8))) (t3_1 : (List DModeChange)) (t3_2 : List UInt8) (t3_3 : (List DFWatchRule)) (t7 : Int) (t8_0 : List UInt8) (t8_1 : List UInt8) (t8_2 : List UInt8) (t8_3 : Bool) (t8_4 : (List DAct)) (t9_0 : List UInt8) (t9_1 : List UInt8) (t9_2 : List UInt8) (t9_3 : Bool) (t9_4 : (List DAct)) : perigeeref8_SameWatch.c4 (n + 1) t2_0 t2_1 t2_2 t2_3 t3_0 t3_1 t3_2 t3_3 t7 t8_0 t8_1 t8_2 t8_3 t8_4 t9_0 t9_1 t9_2 t9_3 t9_4 =
 perigeeref8_SameWatch.c5 n t2_0 t2_1 t2_2 t2_3 t3_0 t3_1 t3_2 t3_3 t7 t8_0 t8_1 t8_2 t8_3 t8_4 t9_0 t9_1 t9_2 t9_3 t9_4 0 := by kernel_rfl
theorem perigeeref8_SameWatch.c5_eq (n : Nat) (t2_0 : (List (List UInt8))) (t2_1 : (List DModeChange)) (t2_2 : List UInt8) (t2_3 : (List DFWatchRule)) (t3_0 : (List (List UInt8))) (t3_1 : (List DModeChange)) (t3_2 : List UInt8) (t3_3 : (List DFWatchRule)) (t7 : Int) (t8_0 : List UInt8) (t8_1 : List UInt8) (t8_2 : List UInt8) (t8_3 : Bool) (t8_4 : (List DAct)) (t9_0 : List UInt8) (t9_1 : List UInt8) (t9_2 : List UInt8) (t9_3 : Bool) (t9_4 : (List DAct)) (t10 : Int) : perigeeref8_SameWatch.c5 (n + 1) t2_0 t2_1 t2_2 t2_3 t3_0 t3_1 t3_2 t3_3 t7 t8_0 t8_1 t8_2 t8_3 t8_4 t9_0 t9_1 t9_2 t9_3 t9_4 t10 =
 (if (decide (t10 < (t8_4.length : Int))) = true then
 (if (0 : Int) ≤ t10 ∧ t10 < (t8_4.length : Int) then
  (if (0 : Int) ≤ t10 ∧ t10 < (t9_4.length : Int) then
   (if (!(eqV YAct (t8_4.getD t10.toNat (Ty.dflt YAct)) (t9_4.getD t10.toNat (Ty.dflt YAct)))) = true then
    some (false, ())
    else
    perigeeref8_SameWatch.c5 n t2_0 t2_1 t2_2 t2_3 t3_0 t3_1 t3_2 t3_3 t7 t8_0 t8_1 t8_2 t8_3 t8_4 t9_0 t9_1 t9_2 t9_3 t9_4 (IntKind.wrap .i64 (t10 + 1)))
   else none)
  else none)
 else
 perigeeref8_SameWatch.c3 n t2_0 t2_1 t2_2 t2_3 t3_0 t3_1 t3_2 t3_3 (IntKind.wrap .i64 (t7 + 1))) := by kernel_rfl
noncomputable def perigeeref8_SameWatch.E (n : Nat) : FunE := fnE tab perigeeref8_SameWatch.T perigeeref8_SameWatch.ann Tryd.f7 perigeeref8_SameWatch.ins perigeeref8_SameWatch.outs n

noncomputable def kit_First.T : Nat → Nat → Option FunE := fun n => ofL none []
noncomputable def kit_First.ann : Nat → Option (List Keep) := ofL none [(2, some [.slot 5, .slot 6, .slot 7])]
noncomputable def kit_First.ins : List (Bool × Ty) := [(false, (.sl (.int .i64)))]
def kit_First.outs : List Ty := [(.int .i64)]
noncomputable def kit_First.E (n : Nat) : FunE := fnE tab kit_First.T kit_First.ann Tryd.f37 kit_First.ins kit_First.outs n

noncomputable def monitor_CheckLimits.T : Nat → Nat → Option FunE := fun n => ofL none [(49, some (monitor_IsName.E n)), (51, some (kit_In.E n))]
noncomputable def monitor_CheckLimits.ann : Nat → Option (List Keep) := ofL none [(4, some [.slot 0, .slot 10, .slot 11, .slot 12]), (9, some [.slot 0, .slot 3, .obj 4 YLimit, .slot 10, .slot 11, .slot 12, .vec 29 (.int .i64), .slot 30, .slot 31]), (16, some [.slot 0, .slot 3, .obj 4 YLimit, .slot 10, .slot 11, .slot 12]), (18, some [.slot 0, .slot 3, .obj 4 YLimit, .slot 10, .slot 11, .slot 12])]
noncomputable def monitor_CheckLimits.ins : List (Bool × Ty) := [(false, (.sl YLimit))]
def monitor_CheckLimits.outs : List Ty := [(.int .i64)]
noncomputable def monitor_CheckLimits.E (n : Nat) : FunE := fnE tab monitor_CheckLimits.T monitor_CheckLimits.ann Tryd.f38 monitor_CheckLimits.ins monitor_CheckLimits.outs n

noncomputable def kit_Range.T : Nat → Nat → Option FunE := fun n => ofL none [(51, some (kit_In.E n))]
noncomputable def kit_Range.ann : Nat → Option (List Keep) := ofL none []
noncomputable def kit_Range.ins : List (Bool × Ty) := [(false, (.int .i64)), (false, (.int .i64)), (false, (.int .i64))]
def kit_Range.outs : List Ty := [(.int .i64)]
noncomputable def kit_Range.E (n : Nat) : FunE := fnE tab kit_Range.T kit_Range.ann Tryd.f39 kit_Range.ins kit_Range.outs n

noncomputable def monitor_state.T : Nat → Nat → Option FunE := fun n => ofL none []
noncomputable def monitor_state.ann : Nat → Option (List Keep) := ofL none []
noncomputable def monitor_state.ins : List (Bool × Ty) := [(false, YLimit), (false, (.int .i64))]
def monitor_state.outs : List Ty := [(.int .i64)]
noncomputable def monitor_state.E (n : Nat) : FunE := fnE tab monitor_state.T monitor_state.ann Tryd.f40 monitor_state.ins monitor_state.outs n

noncomputable def monitor_StateOf.T : Nat → Nat → Option FunE := fun n => ofL none [(37, some (kit_First.E n)), (38, some (monitor_CheckLimits.E n)), (39, some (kit_Range.E n)), (40, some (monitor_state.E n))]
noncomputable def monitor_StateOf.ann : Nat → Option (List Keep) := ofL none []
noncomputable def monitor_StateOf.ins : List (Bool × Ty) := [(false, YLimit), (false, (.int .i64))]
def monitor_StateOf.outs : List Ty := [(.int .i64), (.int .i64)]
noncomputable def monitor_StateOf.E (n : Nat) : FunE := fnE tab monitor_StateOf.T monitor_StateOf.ann Tryd.f22 monitor_StateOf.ins monitor_StateOf.outs n

noncomputable def perigeelaw8_awake.T : Nat → Nat → Option FunE := fun n => ofL none [(22, some (monitor_StateOf.E n))]
noncomputable def perigeelaw8_awake.ann : Nat → Option (List Keep) := ofL none []
noncomputable def perigeelaw8_awake.ins : List (Bool × Ty) := []
def perigeelaw8_awake.outs : List Ty := [.bool]
noncomputable def perigeelaw8_awake.f (n : Nat) : Option (Bool × Unit) := (fnE tab perigeelaw8_awake.T perigeelaw8_awake.ann Tryd.f8 perigeelaw8_awake.ins perigeelaw8_awake.outs n).f ()
noncomputable def perigeelaw8_awake.E (n : Nat) : FunE := fnE tab perigeelaw8_awake.T perigeelaw8_awake.ann Tryd.f8 perigeelaw8_awake.ins perigeelaw8_awake.outs n

noncomputable def perigeelaw8_WatchesTextsComeBack.T : Nat → Nat → Option FunE := fun n => ofL none [(5, some (monitor_Text.E n)), (6, some (monitor_Read.E n)), (7, some (perigeeref8_SameWatch.E n)), (8, some (perigeelaw8_awake.E n))]
noncomputable def perigeelaw8_WatchesTextsComeBack.ann : Nat → Option (List Keep) := ofL none [(6, some [.slot 1])]
noncomputable def perigeelaw8_WatchesTextsComeBack.ins : List (Bool × Ty) := [(false, YFWatch), (false, .str)]
def perigeelaw8_WatchesTextsComeBack.outs : List Ty := [.bool]
noncomputable def perigeelaw8_WatchesTextsComeBack.f (n : Nat) (t0 : DFWatch) (t1 : List UInt8) : Option (Bool × Unit) := (fnE tab perigeelaw8_WatchesTextsComeBack.T perigeelaw8_WatchesTextsComeBack.ann Tryd.f3 perigeelaw8_WatchesTextsComeBack.ins perigeelaw8_WatchesTextsComeBack.outs n).f (t0, (t1, ()))
noncomputable def perigeelaw8_WatchesTextsComeBack.c0 (n : Nat) (t1 : List UInt8) : Option (Bool × Unit) := cutN tab perigeelaw8_WatchesTextsComeBack.T perigeelaw8_WatchesTextsComeBack.ann Tryd.f3 perigeelaw8_WatchesTextsComeBack.ins perigeelaw8_WatchesTextsComeBack.outs n [1, 1] [(1, .val false [.v .str t1])] []
theorem perigeelaw8_WatchesTextsComeBack.f_eq (n : Nat) (t0 : DFWatch) (t1 : List UInt8) : perigeelaw8_WatchesTextsComeBack.f n t0 t1 =
 ((monitor_Text.f n t0).bind fun r1 =>
 (if (decide (r1.2.1 = 0)) = true then
  ((monitor_Read.f n r1.1).bind fun r2 =>
   (if (!(decide (r2.2.2.1 = 0))) = true then
    some (false, ())
    else
    (if (!(decide (r2.2.1 = 0))) = true then
     some (false, ())
     else
     ((perigeeref8_SameWatch.f n r2.1 t0).bind fun r3 =>
      (if (!r3.1) = true then
       some (false, ())
       else
       perigeelaw8_WatchesTextsComeBack.c0 n t1)))))
  else
  perigeelaw8_WatchesTextsComeBack.c0 n t1)) := by kernel_rfl
theorem perigeelaw8_WatchesTextsComeBack.c0_eq (n : Nat) (t1 : List UInt8) : perigeelaw8_WatchesTextsComeBack.c0 (n + 1) t1 =
 ((monitor_Read.f n t1).bind fun r4 =>
 (if (!(decide (r4.2.2.1 = 0))) = true then
  (if (decide ((r4.1.2.2.1 : List UInt8) = [])) = true then
   ((perigeelaw8_awake.f n).bind fun r5 =>
    some (r5.1, ()))
   else
   some (false, ()))
  else
  ((monitor_Text.f n r4.1).bind fun r6 =>
   (if (decide (r6.2.1 = 0)) = true then
    (if (decide ((r6.1 : List UInt8) = t1)) = true then
     ((perigeelaw8_awake.f n).bind fun r7 =>
      some (r7.1, ()))
     else
     some (false, ()))
    else
    some (false, ()))))) := by kernel_rfl
noncomputable def perigeelaw8_WatchesTextsComeBack.E (n : Nat) : FunE := fnE tab perigeelaw8_WatchesTextsComeBack.T perigeelaw8_WatchesTextsComeBack.ann Tryd.f3 perigeelaw8_WatchesTextsComeBack.ins perigeelaw8_WatchesTextsComeBack.outs n

noncomputable def perigeeref8_within.T : Nat → Nat → Option FunE := fun n => ofL none []
noncomputable def perigeeref8_within.ann : Nat → Option (List Keep) := ofL none []
noncomputable def perigeeref8_within.ins : List (Bool × Ty) := [(false, (.int .i64)), (false, (.int .i64)), (false, (.int .i64))]
def perigeeref8_within.outs : List Ty := [.bool]
noncomputable def perigeeref8_within.f (n : Nat) (n0 : Int) (low1 : Int) (high2 : Int) : Option (Bool × Unit) := (fnE tab perigeeref8_within.T perigeeref8_within.ann Tryd.f57 perigeeref8_within.ins perigeeref8_within.outs n).f (n0, (low1, (high2, ())))
theorem perigeeref8_within.f_eq (n : Nat) (n0 : Int) (low1 : Int) (high2 : Int) : perigeeref8_within.f n n0 low1 high2 =
 (if (decide (low1 ≤ n0)) = true then
 some ((decide (n0 ≤ high2)), ())
 else
 some (false, ())) := by kernel_rfl
noncomputable def perigeeref8_within.E (n : Nat) : FunE := fnE tab perigeeref8_within.T perigeeref8_within.ann Tryd.f57 perigeeref8_within.ins perigeeref8_within.outs n

noncomputable def perigeeref8_IsName.T : Nat → Nat → Option FunE := fun n => ofL none [(57, some (perigeeref8_within.E n))]
noncomputable def perigeeref8_IsName.ann : Nat → Option (List Keep) := ofL none [(2, some [.slot 0, .slot 3])]
noncomputable def perigeeref8_IsName.ins : List (Bool × Ty) := [(false, .str)]
def perigeeref8_IsName.outs : List Ty := [.bool]
noncomputable def perigeeref8_IsName.f (n : Nat) (s0 : List UInt8) : Option (Bool × Unit) := (fnE tab perigeeref8_IsName.T perigeeref8_IsName.ann Tryd.f41 perigeeref8_IsName.ins perigeeref8_IsName.outs n).f (s0, ())
noncomputable def perigeeref8_IsName.c0 (n : Nat) (s0 : List UInt8) (i3 : Int) : Option (Bool × Unit) := cutN tab perigeeref8_IsName.T perigeeref8_IsName.ann Tryd.f41 perigeeref8_IsName.ins perigeeref8_IsName.outs n [1, 0, 1, 0] [(0, .val false [.v .str s0]), (3, .val false [.v (.int .i64) i3])] []
theorem perigeeref8_IsName.f_eq (n : Nat) (s0 : List UInt8) : perigeeref8_IsName.f n s0 =
 perigeeref8_IsName.c0 n s0 0 := by kernel_rfl
theorem perigeeref8_IsName.c0_eq (n : Nat) (s0 : List UInt8) (i3 : Int) : perigeeref8_IsName.c0 (n + 1) s0 i3 =
 (if (decide (i3 < (s0.length : Int))) = true then
 (if (0 : Int) ≤ i3 ∧ i3 < (s0.length : Int) then
  (if (decide (97 ≤ ((s0.getD i3.toNat 0).toNat : Int))) = true then
   (if (!(decide (((s0.getD i3.toNat 0).toNat : Int) ≤ 122))) = true then
    (if (decide (i3 = 0)) = true then
     some (false, ())
     else
     (if (!(decide (((s0.getD i3.toNat 0).toNat : Int) = 45))) = true then
      (if (!(decide (((s0.getD i3.toNat 0).toNat : Int) = 95))) = true then
       (if (decide (48 ≤ ((s0.getD i3.toNat 0).toNat : Int))) = true then
        (if (!(decide (((s0.getD i3.toNat 0).toNat : Int) ≤ 57))) = true then
         some (false, ())
         else
         perigeeref8_IsName.c0 n s0 (IntKind.wrap .i64 (i3 + 1)))
        else
        some (false, ()))
       else
       perigeeref8_IsName.c0 n s0 (IntKind.wrap .i64 (i3 + 1)))
      else
      perigeeref8_IsName.c0 n s0 (IntKind.wrap .i64 (i3 + 1))))
    else
    perigeeref8_IsName.c0 n s0 (IntKind.wrap .i64 (i3 + 1)))
   else
   (if (decide (i3 = 0)) = true then
    some (false, ())
    else
    (if (!(decide (((s0.getD i3.toNat 0).toNat : Int) = 45))) = true then
     (if (!(decide (((s0.getD i3.toNat 0).toNat : Int) = 95))) = true then
      (if (decide (48 ≤ ((s0.getD i3.toNat 0).toNat : Int))) = true then
       (if (!(decide (((s0.getD i3.toNat 0).toNat : Int) ≤ 57))) = true then
        some (false, ())
        else
        perigeeref8_IsName.c0 n s0 (IntKind.wrap .i64 (i3 + 1)))
       else
       some (false, ()))
      else
      perigeeref8_IsName.c0 n s0 (IntKind.wrap .i64 (i3 + 1)))
     else
     perigeeref8_IsName.c0 n s0 (IntKind.wrap .i64 (i3 + 1)))))
  else none)
 else
 ((perigeeref8_within.f n (s0.length : Int) 1 40).bind fun r1 =>
  some (r1.1, ()))) := by kernel_rfl
noncomputable def perigeeref8_IsName.E (n : Nat) : FunE := fnE tab perigeeref8_IsName.T perigeeref8_IsName.ann Tryd.f41 perigeeref8_IsName.ins perigeeref8_IsName.outs n

noncomputable def perigeeref8_has.T : Nat → Nat → Option FunE := fun n => ofL none []
noncomputable def perigeeref8_has.ann : Nat → Option (List Keep) := ofL none [(2, some [.slot 0, .slot 1, .slot 5])]
noncomputable def perigeeref8_has.ins : List (Bool × Ty) := [(false, (.sl .str)), (false, .str)]
def perigeeref8_has.outs : List Ty := [.bool]
noncomputable def perigeeref8_has.f (n : Nat) (l0 : (List (List UInt8))) (s1 : List UInt8) : Option (Bool × Unit) := (fnE tab perigeeref8_has.T perigeeref8_has.ann Tryd.f43 perigeeref8_has.ins perigeeref8_has.outs n).f (l0, (s1, ()))
noncomputable def perigeeref8_has.c0 (n : Nat) (l0 : (List (List UInt8))) (s1 : List UInt8) (i5 : Int) : Option (Bool × Unit) := cutN tab perigeeref8_has.T perigeeref8_has.ann Tryd.f43 perigeeref8_has.ins perigeeref8_has.outs n [1, 0, 1, 0] [(0, .val false [.v (.sl .str) l0]), (1, .val false [.v .str s1]), (5, .val false [.v (.int .i64) i5])] []
theorem perigeeref8_has.f_eq (n : Nat) (l0 : (List (List UInt8))) (s1 : List UInt8) : perigeeref8_has.f n l0 s1 =
 perigeeref8_has.c0 n l0 s1 0 := by kernel_rfl
theorem perigeeref8_has.c0_eq (n : Nat) (l0 : (List (List UInt8))) (s1 : List UInt8) (i5 : Int) : perigeeref8_has.c0 (n + 1) l0 s1 i5 =
 (if (decide (i5 < (l0.length : Int))) = true then
 (if (0 : Int) ≤ i5 ∧ i5 < (l0.length : Int) then
  (if (decide (((l0.getD i5.toNat []) : List UInt8) = s1)) = true then
   some (true, ())
   else
   perigeeref8_has.c0 n l0 s1 (IntKind.wrap .i64 (i5 + 1)))
  else none)
 else
 some (false, ())) := by kernel_rfl
noncomputable def perigeeref8_has.E (n : Nat) : FunE := fnE tab perigeeref8_has.T perigeeref8_has.ann Tryd.f43 perigeeref8_has.ins perigeeref8_has.outs n

noncomputable def perigeeref8_checkChange.T : Nat → Nat → Option FunE := fun n => ofL none [(41, some (perigeeref8_IsName.E n)), (43, some (perigeeref8_has.E n))]
noncomputable def perigeeref8_checkChange.ann : Nat → Option (List Keep) := ofL none [(4, some [.slot 1, .obj 2 YFWatch, .obj 5 YModeChange])]
noncomputable def perigeeref8_checkChange.ins : List (Bool × Ty) := [(false, YFWatch), (false, (.int .i64))]
def perigeeref8_checkChange.outs : List Ty := [(.int .i64)]
noncomputable def perigeeref8_checkChange.f (n : Nat) (w0 : DFWatch) (i1 : Int) : Option (Int × Unit) := (fnE tab perigeeref8_checkChange.T perigeeref8_checkChange.ann Tryd.f42 perigeeref8_checkChange.ins perigeeref8_checkChange.outs n).f (w0, (i1, ()))
noncomputable def perigeeref8_checkChange.c0 (n : Nat) (i1 : Int) (w2_0 : (List (List UInt8))) (w2_1 : (List DModeChange)) (w2_2 : List UInt8) (w2_3 : (List DFWatchRule)) (x5_0 : List UInt8) (x5_1 : List UInt8) (x5_2 : List UInt8) : Option (Int × Unit) := cutN tab perigeeref8_checkChange.T perigeeref8_checkChange.ann Tryd.f42 perigeeref8_checkChange.ins perigeeref8_checkChange.outs n [1, 1, 1] [(1, .val false [.v (.int .i64) i1]), (2, .val false [.ptr 1000002 0]), (5, .val false [.ptr 1000005 0])] [(1000002, .live (.cells 0 [.v (.sl .str) w2_0, .v (.sl YModeChange) w2_1, .v .str w2_2, .v (.sl YFWatchRule) w2_3])), (1000005, .live (.cells 0 [.v .str x5_0, .v .str x5_1, .v .str x5_2]))]
theorem perigeeref8_checkChange.f_eq (n : Nat) (w0 : DFWatch) (i1 : Int) : perigeeref8_checkChange.f n w0 i1 =
 (if (0 : Int) ≤ i1 ∧ i1 < (w0.2.1.length : Int) then
 ((perigeeref8_has.f n w0.1 (w0.2.1.getD i1.toNat (Ty.dflt YModeChange)).1).bind fun r1 =>
  (if (!r1.1) = true then
   some (9, ())
   else
   ((perigeeref8_has.f n w0.1 (w0.2.1.getD i1.toNat (Ty.dflt YModeChange)).2.2).bind fun r2 =>
    (if (!r2.1) = true then
     some (9, ())
     else
     perigeeref8_checkChange.c0 n i1 w0.1 w0.2.1 w0.2.2.1 w0.2.2.2 (w0.2.1.getD i1.toNat (Ty.dflt YModeChange)).1 (w0.2.1.getD i1.toNat (Ty.dflt YModeChange)).2.1 (w0.2.1.getD i1.toNat (Ty.dflt YModeChange)).2.2))))
 else none) := by kernel_rfl
theorem perigeeref8_checkChange.c0_eq (n : Nat) (i1 : Int) (w2_0 : (List (List UInt8))) (w2_1 : (List DModeChange)) (w2_2 : List UInt8) (w2_3 : (List DFWatchRule)) (x5_0 : List UInt8) (x5_1 : List UInt8) (x5_2 : List UInt8) : perigeeref8_checkChange.c0 (n + 1) i1 w2_0 w2_1 w2_2 w2_3 x5_0 x5_1 x5_2 =
 ((perigeeref8_IsName.f n x5_1).bind fun r3 =>
 (if (!r3.1) = true then
  some (5, ())
  else
  (if (decide (0 < i1)) = true then
   (if (0 : Int) ≤ (IntKind.wrap .i64 (i1 - 1)) ∧ (IntKind.wrap .i64 (i1 - 1)) < (w2_1.length : Int) then
    (if (lessS x5_0 (w2_1.getD (IntKind.wrap .i64 (i1 - 1)).toNat (Ty.dflt YModeChange)).1) = true then
     some (8, ())
     else
     (if (decide ((x5_0 : List UInt8) = (w2_1.getD (IntKind.wrap .i64 (i1 - 1)).toNat (Ty.dflt YModeChange)).1)) = true then
      (if (!(lessS (w2_1.getD (IntKind.wrap .i64 (i1 - 1)).toNat (Ty.dflt YModeChange)).2.1 x5_1)) = true then
       some (8, ())
       else
       some (0, ()))
      else
      some (0, ())))
    else none)
   else
   some (0, ())))) := by kernel_rfl
noncomputable def perigeeref8_checkChange.E (n : Nat) : FunE := fnE tab perigeeref8_checkChange.T perigeeref8_checkChange.ann Tryd.f42 perigeeref8_checkChange.ins perigeeref8_checkChange.outs n

noncomputable def perigeeref8_checkRule.T : Nat → Nat → Option FunE := fun n => ofL none [(41, some (perigeeref8_IsName.E n)), (43, some (perigeeref8_has.E n)), (57, some (perigeeref8_within.E n))]
noncomputable def perigeeref8_checkRule.ann : Nat → Option (List Keep) := ofL none [(4, some [.slot 1, .obj 2 YFWatch, .obj 5 YFWatchRule]), (6, some [.slot 1, .obj 2 YFWatch, .obj 5 YFWatchRule]), (9, some [.slot 1, .obj 2 YFWatch, .obj 5 YFWatchRule, .slot 6])]
noncomputable def perigeeref8_checkRule.ins : List (Bool × Ty) := [(false, YFWatch), (false, (.int .i64))]
def perigeeref8_checkRule.outs : List Ty := [(.int .i64)]
noncomputable def perigeeref8_checkRule.f (n : Nat) (t0 : DFWatch) (t1 : Int) : Option (Int × Unit) := (fnE tab perigeeref8_checkRule.T perigeeref8_checkRule.ann Tryd.f44 perigeeref8_checkRule.ins perigeeref8_checkRule.outs n).f (t0, (t1, ()))
noncomputable def perigeeref8_checkRule.c0 (n : Nat) (t1 : Int) (t2_0 : (List (List UInt8))) (t2_1 : (List DModeChange)) (t2_2 : List UInt8) (t2_3 : (List DFWatchRule)) (t5_0 : List UInt8) (t5_1 : List UInt8) (t5_2 : List UInt8) (t5_3 : Bool) (t5_4 : (List DAct)) : Option (Int × Unit) := cutN tab perigeeref8_checkRule.T perigeeref8_checkRule.ann Tryd.f44 perigeeref8_checkRule.ins perigeeref8_checkRule.outs n [1, 1, 1] [(1, .val false [.v (.int .i64) t1]), (2, .val false [.ptr 1000002 0]), (5, .val false [.ptr 1000005 0])] [(1000002, .live (.cells 0 [.v (.sl .str) t2_0, .v (.sl YModeChange) t2_1, .v .str t2_2, .v (.sl YFWatchRule) t2_3])), (1000005, .live (.cells 0 [.v .str t5_0, .v .str t5_1, .v .str t5_2, .v .bool t5_3, .v (.sl YAct) t5_4]))]
noncomputable def perigeeref8_checkRule.c1 (n : Nat) (t1 : Int) (t2_0 : (List (List UInt8))) (t2_1 : (List DModeChange)) (t2_2 : List UInt8) (t2_3 : (List DFWatchRule)) (t5_0 : List UInt8) (t5_1 : List UInt8) (t5_2 : List UInt8) (t5_3 : Bool) (t5_4 : (List DAct)) : Option (Int × Unit) := cutN tab perigeeref8_checkRule.T perigeeref8_checkRule.ann Tryd.f44 perigeeref8_checkRule.ins perigeeref8_checkRule.outs n [1, 1, 1, 1] [(1, .val false [.v (.int .i64) t1]), (2, .val false [.ptr 1000002 0]), (5, .val false [.ptr 1000005 0])] [(1000002, .live (.cells 0 [.v (.sl .str) t2_0, .v (.sl YModeChange) t2_1, .v .str t2_2, .v (.sl YFWatchRule) t2_3])), (1000005, .live (.cells 0 [.v .str t5_0, .v .str t5_1, .v .str t5_2, .v .bool t5_3, .v (.sl YAct) t5_4]))]
noncomputable def perigeeref8_checkRule.c2 (n : Nat) (t1 : Int) (t2_0 : (List (List UInt8))) (t2_1 : (List DModeChange)) (t2_2 : List UInt8) (t2_3 : (List DFWatchRule)) (t5_0 : List UInt8) (t5_1 : List UInt8) (t5_2 : List UInt8) (t5_3 : Bool) (t5_4 : (List DAct)) (t6 : Int) : Option (Int × Unit) := cutN tab perigeeref8_checkRule.T perigeeref8_checkRule.ann Tryd.f44 perigeeref8_checkRule.ins perigeeref8_checkRule.outs n [1, 1, 1, 1, 1, 0, 1, 0] [(1, .val false [.v (.int .i64) t1]), (2, .val false [.ptr 1000002 0]), (5, .val false [.ptr 1000005 0]), (6, .val false [.v (.int .i64) t6])] [(1000002, .live (.cells 0 [.v (.sl .str) t2_0, .v (.sl YModeChange) t2_1, .v .str t2_2, .v (.sl YFWatchRule) t2_3])), (1000005, .live (.cells 0 [.v .str t5_0, .v .str t5_1, .v .str t5_2, .v .bool t5_3, .v (.sl YAct) t5_4]))]
theorem perigeeref8_checkRule.f_eq (n : Nat) (t0 : DFWatch) (t1 : Int) : perigeeref8_checkRule.f n t0 t1 =
 (if (0 : Int) ≤ t1 ∧ t1 < (t0.2.2.2.length : Int) then
 ((perigeeref8_IsName.f n (t0.2.2.2.getD t1.toNat (Ty.dflt YFWatchRule)).1).bind fun r1 =>
  (if (!r1.1) = true then
   some (5, ())
   else
   ((perigeeref8_IsName.f n (t0.2.2.2.getD t1.toNat (Ty.dflt YFWatchRule)).2.1).bind fun r2 =>
    (if (!r2.1) = true then
     some (5, ())
     else
     perigeeref8_checkRule.c0 n t1 t0.1 t0.2.1 t0.2.2.1 t0.2.2.2 (t0.2.2.2.getD t1.toNat (Ty.dflt YFWatchRule)).1 (t0.2.2.2.getD t1.toNat (Ty.dflt YFWatchRule)).2.1 (t0.2.2.2.getD t1.toNat (Ty.dflt YFWatchRule)).2.2.1 (t0.2.2.2.getD t1.toNat (Ty.dflt YFWatchRule)).2.2.2.1 (t0.2.2.2.getD t1.toNat (Ty.dflt YFWatchRule)).2.2.2.2))))
 else none) := by kernel_rfl
theorem perigeeref8_checkRule.c0_eq (n : Nat) (t1 : Int) (t2_0 : (List (List UInt8))) (t2_1 : (List DModeChange)) (t2_2 : List UInt8) (t2_3 : (List DFWatchRule)) (t5_0 : List UInt8) (t5_1 : List UInt8) (t5_2 : List UInt8) (t5_3 : Bool) (t5_4 : (List DAct)) : perigeeref8_checkRule.c0 (n + 1) t1 t2_0 t2_1 t2_2 t2_3 t5_0 t5_1 t5_2 t5_3 t5_4 =
 (if (!(decide ((t5_2 : List UInt8) = []))) = true then
 ((perigeeref8_has.f n t2_0 t5_2).bind fun r3 =>
  (if (!r3.1) = true then
   some (9, ())
   else
   perigeeref8_checkRule.c1 n t1 t2_0 t2_1 t2_2 t2_3 t5_0 t5_1 t5_2 t5_3 t5_4))
 else
 perigeeref8_checkRule.c1 n t1 t2_0 t2_1 t2_2 t2_3 t5_0 t5_1 t5_2 t5_3 t5_4) := by kernel_rfl
theorem perigeeref8_checkRule.c1_eq (n : Nat) (t1 : Int) (t2_0 : (List (List UInt8))) (t2_1 : (List DModeChange)) (t2_2 : List UInt8) (t2_3 : (List DFWatchRule)) (t5_0 : List UInt8) (t5_1 : List UInt8) (t5_2 : List UInt8) (t5_3 : Bool) (t5_4 : (List DAct)) : perigeeref8_checkRule.c1 (n + 1) t1 t2_0 t2_1 t2_2 t2_3 t5_0 t5_1 t5_2 t5_3 t5_4 =
 (if (decide (10 < (t5_4.length : Int))) = true then
 some (2, ())
 else
 perigeeref8_checkRule.c2 n t1 t2_0 t2_1 t2_2 t2_3 t5_0 t5_1 t5_2 t5_3 t5_4 0) := by kernel_rfl
theorem perigeeref8_checkRule.c2_eq (n : Nat) (t1 : Int) (t2_0 : (List (List UInt8))) (t2_1 : (List DModeChange)) (t2_2 : List UInt8) (t2_3 : (List DFWatchRule)) (t5_0 : List UInt8) (t5_1 : List UInt8) (t5_2 : List UInt8) (t5_3 : Bool) (t5_4 : (List DAct)) (t6 : Int) : perigeeref8_checkRule.c2 (n + 1) t1 t2_0 t2_1 t2_2 t2_3 t5_0 t5_1 t5_2 t5_3 t5_4 t6 =
 (if (decide (t6 < (t5_4.length : Int))) = true then
 (if (0 : Int) ≤ t6 ∧ t6 < (t5_4.length : Int) then
  ((perigeeref8_within.f n (t5_4.getD t6.toNat (Ty.dflt YAct)).1 1 4).bind fun r4 =>
   (if (!r4.1) = true then
    some (4, ())
    else
    ((perigeeref8_IsName.f n (t5_4.getD t6.toNat (Ty.dflt YAct)).2.1).bind fun r5 =>
     (if (!r5.1) = true then
      some (5, ())
      else
      (if (t5_4.getD t6.toNat (Ty.dflt YAct)).2.2 = true then
       (if (!(decide ((t5_4.getD t6.toNat (Ty.dflt YAct)).1 = 4))) = true then
        some (3, ())
        else
        perigeeref8_checkRule.c2 n t1 t2_0 t2_1 t2_2 t2_3 t5_0 t5_1 t5_2 t5_3 t5_4 (IntKind.wrap .i64 (t6 + 1)))
       else
       perigeeref8_checkRule.c2 n t1 t2_0 t2_1 t2_2 t2_3 t5_0 t5_1 t5_2 t5_3 t5_4 (IntKind.wrap .i64 (t6 + 1)))))))
  else none)
 else
 (if (decide (0 < t1)) = true then
  (if (0 : Int) ≤ (IntKind.wrap .i64 (t1 - 1)) ∧ (IntKind.wrap .i64 (t1 - 1)) < (t2_3.length : Int) then
   (if (!(lessS (t2_3.getD (IntKind.wrap .i64 (t1 - 1)).toNat (Ty.dflt YFWatchRule)).1 t5_0)) = true then
    some (8, ())
    else
    some (0, ()))
   else none)
  else
  some (0, ()))) := by kernel_rfl
noncomputable def perigeeref8_checkRule.E (n : Nat) : FunE := fnE tab perigeeref8_checkRule.T perigeeref8_checkRule.ann Tryd.f44 perigeeref8_checkRule.ins perigeeref8_checkRule.outs n

noncomputable def perigeeref8_ruleOf.T : Nat → Nat → Option FunE := fun n => ofL none []
noncomputable def perigeeref8_ruleOf.ann : Nat → Option (List Keep) := ofL none [(2, some [.slot 1, .obj 2 YFWatch, .slot 5])]
noncomputable def perigeeref8_ruleOf.ins : List (Bool × Ty) := [(false, YFWatch), (false, .str)]
def perigeeref8_ruleOf.outs : List Ty := [(.int .i64)]
noncomputable def perigeeref8_ruleOf.f (n : Nat) (w0 : DFWatch) (name1 : List UInt8) : Option (Int × Unit) := (fnE tab perigeeref8_ruleOf.T perigeeref8_ruleOf.ann Tryd.f45 perigeeref8_ruleOf.ins perigeeref8_ruleOf.outs n).f (w0, (name1, ()))
noncomputable def perigeeref8_ruleOf.c0 (n : Nat) (name1 : List UInt8) (w2_0 : (List (List UInt8))) (w2_1 : (List DModeChange)) (w2_2 : List UInt8) (w2_3 : (List DFWatchRule)) (i5 : Int) : Option (Int × Unit) := cutN tab perigeeref8_ruleOf.T perigeeref8_ruleOf.ann Tryd.f45 perigeeref8_ruleOf.ins perigeeref8_ruleOf.outs n [1, 0, 1, 0] [(1, .val false [.v .str name1]), (2, .val false [.ptr 1000002 0]), (5, .val false [.v (.int .i64) i5])] [(1000002, .live (.cells 0 [.v (.sl .str) w2_0, .v (.sl YModeChange) w2_1, .v .str w2_2, .v (.sl YFWatchRule) w2_3]))]
theorem perigeeref8_ruleOf.f_eq (n : Nat) (w0 : DFWatch) (name1 : List UInt8) : perigeeref8_ruleOf.f n w0 name1 =
 perigeeref8_ruleOf.c0 n name1 w0.1 w0.2.1 w0.2.2.1 w0.2.2.2 0 := by kernel_rfl
theorem perigeeref8_ruleOf.c0_eq (n : Nat) (name1 : List UInt8) (w2_0 : (List (List UInt8))) (w2_1 : (List DModeChange)) (w2_2 : List UInt8) (w2_3 : (List DFWatchRule)) (i5 : Int) : perigeeref8_ruleOf.c0 (n + 1) name1 w2_0 w2_1 w2_2 w2_3 i5 =
 (if (decide (i5 < (w2_3.length : Int))) = true then
 (if (0 : Int) ≤ i5 ∧ i5 < (w2_3.length : Int) then
  (if (decide (((w2_3.getD i5.toNat (Ty.dflt YFWatchRule)).1 : List UInt8) = name1)) = true then
   some (i5, ())
   else
   perigeeref8_ruleOf.c0 n name1 w2_0 w2_1 w2_2 w2_3 (IntKind.wrap .i64 (i5 + 1)))
  else none)
 else
 some ((-1), ())) := by kernel_rfl
noncomputable def perigeeref8_ruleOf.E (n : Nat) : FunE := fnE tab perigeeref8_ruleOf.T perigeeref8_ruleOf.ann Tryd.f45 perigeeref8_ruleOf.ins perigeeref8_ruleOf.outs n

noncomputable def perigeeref8_CheckWatch.T : Nat → Nat → Option FunE := fun n => ofL none [(41, some (perigeeref8_IsName.E n)), (42, some (perigeeref8_checkChange.E n)), (43, some (perigeeref8_has.E n)), (44, some (perigeeref8_checkRule.E n)), (45, some (perigeeref8_ruleOf.E n))]
noncomputable def perigeeref8_CheckWatch.ann : Nat → Option (List Keep) := ofL none [(6, some [.obj 1 YFWatch, .slot 3]), (15, some [.obj 1 YFWatch, .slot 4]), (25, some [.obj 1 YFWatch, .slot 6]), (31, some [.obj 1 YFWatch, .slot 8]), (34, some [.obj 1 YFWatch, .slot 8, .slot 9])]
noncomputable def perigeeref8_CheckWatch.ins : List (Bool × Ty) := [(false, YFWatch)]
def perigeeref8_CheckWatch.outs : List Ty := [(.int .i64)]
noncomputable def perigeeref8_CheckWatch.f (n : Nat) (t0 : DFWatch) : Option (Int × Unit) := (fnE tab perigeeref8_CheckWatch.T perigeeref8_CheckWatch.ann Tryd.f23 perigeeref8_CheckWatch.ins perigeeref8_CheckWatch.outs n).f (t0, ())
noncomputable def perigeeref8_CheckWatch.c0 (n : Nat) (t1_0 : (List (List UInt8))) (t1_1 : (List DModeChange)) (t1_2 : List UInt8) (t1_3 : (List DFWatchRule)) (t3 : Int) : Option (Int × Unit) := cutN tab perigeeref8_CheckWatch.T perigeeref8_CheckWatch.ann Tryd.f23 perigeeref8_CheckWatch.ins perigeeref8_CheckWatch.outs n [1, 1, 1, 0, 1, 0] [(1, .val false [.ptr 1000001 0]), (3, .val false [.v (.int .i64) t3])] [(1000001, .live (.cells 0 [.v (.sl .str) t1_0, .v (.sl YModeChange) t1_1, .v .str t1_2, .v (.sl YFWatchRule) t1_3]))]
noncomputable def perigeeref8_CheckWatch.c1 (n : Nat) (t1_0 : (List (List UInt8))) (t1_1 : (List DModeChange)) (t1_2 : List UInt8) (t1_3 : (List DFWatchRule)) (t4 : Int) : Option (Int × Unit) := cutN tab perigeeref8_CheckWatch.T perigeeref8_CheckWatch.ann Tryd.f23 perigeeref8_CheckWatch.ins perigeeref8_CheckWatch.outs n [1, 1, 1, 1, 1, 0, 1, 0] [(1, .val false [.ptr 1000001 0]), (4, .val false [.v (.int .i64) t4])] [(1000001, .live (.cells 0 [.v (.sl .str) t1_0, .v (.sl YModeChange) t1_1, .v .str t1_2, .v (.sl YFWatchRule) t1_3]))]
noncomputable def perigeeref8_CheckWatch.c2 (n : Nat) (t1_0 : (List (List UInt8))) (t1_1 : (List DModeChange)) (t1_2 : List UInt8) (t1_3 : (List DFWatchRule)) (t6 : Int) : Option (Int × Unit) := cutN tab perigeeref8_CheckWatch.T perigeeref8_CheckWatch.ann Tryd.f23 perigeeref8_CheckWatch.ins perigeeref8_CheckWatch.outs n [1, 1, 1, 1, 1, 1, 1, 1, 0, 1, 0] [(1, .val false [.ptr 1000001 0]), (6, .val false [.v (.int .i64) t6])] [(1000001, .live (.cells 0 [.v (.sl .str) t1_0, .v (.sl YModeChange) t1_1, .v .str t1_2, .v (.sl YFWatchRule) t1_3]))]
noncomputable def perigeeref8_CheckWatch.c3 (n : Nat) (t1_0 : (List (List UInt8))) (t1_1 : (List DModeChange)) (t1_2 : List UInt8) (t1_3 : (List DFWatchRule)) (t8 : Int) : Option (Int × Unit) := cutN tab perigeeref8_CheckWatch.T perigeeref8_CheckWatch.ann Tryd.f23 perigeeref8_CheckWatch.ins perigeeref8_CheckWatch.outs n [1, 1, 1, 1, 1, 1, 1, 1, 1, 0, 1, 0] [(1, .val false [.ptr 1000001 0]), (8, .val false [.v (.int .i64) t8])] [(1000001, .live (.cells 0 [.v (.sl .str) t1_0, .v (.sl YModeChange) t1_1, .v .str t1_2, .v (.sl YFWatchRule) t1_3]))]
noncomputable def perigeeref8_CheckWatch.c4 (n : Nat) (t1_0 : (List (List UInt8))) (t1_1 : (List DModeChange)) (t1_2 : List UInt8) (t1_3 : (List DFWatchRule)) (t8 : Int) (t9 : Int) : Option (Int × Unit) := cutN tab perigeeref8_CheckWatch.T perigeeref8_CheckWatch.ann Tryd.f23 perigeeref8_CheckWatch.ins perigeeref8_CheckWatch.outs n [1, 1, 1, 1, 1, 1, 1, 1, 1, 0, 1, 0, 0, 1, 0, 0, 1, 0] [(1, .val false [.ptr 1000001 0]), (8, .val false [.v (.int .i64) t8]), (9, .val false [.v (.int .i64) t9])] [(1000001, .live (.cells 0 [.v (.sl .str) t1_0, .v (.sl YModeChange) t1_1, .v .str t1_2, .v (.sl YFWatchRule) t1_3]))]
theorem perigeeref8_CheckWatch.f_eq (n : Nat) (t0 : DFWatch) : perigeeref8_CheckWatch.f n t0 =
 (if (decide ((t0.1.length : Int) = 0)) = true then
 some (9, ())
 else
 (if (decide (50 < (t0.1.length : Int))) = true then
  some (2, ())
  else
  perigeeref8_CheckWatch.c0 n t0.1 t0.2.1 t0.2.2.1 t0.2.2.2 0)) := by kernel_rfl
theorem perigeeref8_CheckWatch.c0_eq (n : Nat) (t1_0 : (List (List UInt8))) (t1_1 : (List DModeChange)) (t1_2 : List UInt8) (t1_3 : (List DFWatchRule)) (t3 : Int) : perigeeref8_CheckWatch.c0 (n + 1) t1_0 t1_1 t1_2 t1_3 t3 =
 (if (decide (t3 < (t1_0.length : Int))) = true then
 (if (0 : Int) ≤ t3 ∧ t3 < (t1_0.length : Int) then
  ((perigeeref8_IsName.f n (t1_0.getD t3.toNat [])).bind fun r1 =>
   (if (!r1.1) = true then
    some (5, ())
    else
    (if (decide (0 < t3)) = true then
     (if (0 : Int) ≤ t3 ∧ t3 < (t1_0.length : Int) then
      (if (0 : Int) ≤ (IntKind.wrap .i64 (t3 - 1)) ∧ (IntKind.wrap .i64 (t3 - 1)) < (t1_0.length : Int) then
       (if (!(lessS (t1_0.getD (IntKind.wrap .i64 (t3 - 1)).toNat []) (t1_0.getD t3.toNat []))) = true then
        some (8, ())
        else
        perigeeref8_CheckWatch.c0 n t1_0 t1_1 t1_2 t1_3 (IntKind.wrap .i64 (t3 + 1)))
       else none)
      else none)
     else
     perigeeref8_CheckWatch.c0 n t1_0 t1_1 t1_2 t1_3 (IntKind.wrap .i64 (t3 + 1)))))
  else none)
 else
 (if (decide (500 < (t1_1.length : Int))) = true then
  some (2, ())
  else
  perigeeref8_CheckWatch.c1 n t1_0 t1_1 t1_2 t1_3 0)) := by kernel_rfl
theorem perigeeref8_CheckWatch.c1_eq (n : Nat) (t1_0 : (List (List UInt8))) (t1_1 : (List DModeChange)) (t1_2 : List UInt8) (t1_3 : (List DFWatchRule)) (t4 : Int) : perigeeref8_CheckWatch.c1 (n + 1) t1_0 t1_1 t1_2 t1_3 t4 =
 (if (decide (t4 < (t1_1.length : Int))) = true then
 ((perigeeref8_checkChange.f n (t1_0, (t1_1, (t1_2, t1_3))) t4).bind fun r2 =>
  (if (!(decide (r2.1 = 0))) = true then
   some (r2.1, ())
   else
   perigeeref8_CheckWatch.c1 n t1_0 t1_1 t1_2 t1_3 (IntKind.wrap .i64 (t4 + 1))))
 else
 ((perigeeref8_has.f n t1_0 t1_2).bind fun r3 =>
  (if (!r3.1) = true then
   some (9, ())
   else
   (if (decide (200 < (t1_3.length : Int))) = true then
    some (2, ())
    else
    perigeeref8_CheckWatch.c2 n t1_0 t1_1 t1_2 t1_3 0)))) := by kernel_rfl
theorem perigeeref8_CheckWatch.c2_eq (n : Nat) (t1_0 : (List (List UInt8))) (t1_1 : (List DModeChange)) (t1_2 : List UInt8) (t1_3 : (List DFWatchRule)) (t6 : Int) : perigeeref8_CheckWatch.c2 (n + 1) t1_0 t1_1 t1_2 t1_3 t6 =
 (if (decide (t6 < (t1_3.length : Int))) = true then
 ((perigeeref8_checkRule.f n (t1_0, (t1_1, (t1_2, t1_3))) t6).bind fun r4 =>
  (if (!(decide (r4.1 = 0))) = true then
   some (r4.1, ())
   else
   perigeeref8_CheckWatch.c2 n t1_0 t1_1 t1_2 t1_3 (IntKind.wrap .i64 (t6 + 1))))
 else
 perigeeref8_CheckWatch.c3 n t1_0 t1_1 t1_2 t1_3 0) := by kernel_rfl
theorem perigeeref8_CheckWatch.c3_eq (n : Nat) (t1_0 : (List (List UInt8))) (t1_1 : (List DModeChange)) (t1_2 : List UInt8) (t1_3 : (List DFWatchRule)) (t8 : Int) : perigeeref8_CheckWatch.c3 (n + 1) t1_0 t1_1 t1_2 t1_3 t8 =
 (if (decide (t8 < (t1_3.length : Int))) = true then
 perigeeref8_CheckWatch.c4 n t1_0 t1_1 t1_2 t1_3 t8 0
 else
 some (0, ())) := by kernel_rfl
theorem perigeeref8_CheckWatch.c4_eq (n : Nat) (t1_0 : (List (List UInt8))) (t1_1 : (List DModeChange)) (t1_2 : List UInt8) (t1_3 : (List DFWatchRule)) (t8 : Int) (t9 : Int) : perigeeref8_CheckWatch.c4 (n + 1) t1_0 t1_1 t1_2 t1_3 t8 t9 =
 (if (0 : Int) ≤ t8 ∧ t8 < (t1_3.length : Int) then
 (if (decide (t9 < ((t1_3.getD t8.toNat (Ty.dflt YFWatchRule)).2.2.2.2.length : Int))) = true then
  (if (0 : Int) ≤ t8 ∧ t8 < (t1_3.length : Int) then
   (if (0 : Int) ≤ t9 ∧ t9 < ((t1_3.getD t8.toNat (Ty.dflt YFWatchRule)).2.2.2.2.length : Int) then
    (if (decide (((t1_3.getD t8.toNat (Ty.dflt YFWatchRule)).2.2.2.2.getD t9.toNat (Ty.dflt YAct)).1 = 2)) = true then
     ((perigeeref8_ruleOf.f n (t1_0, (t1_1, (t1_2, t1_3))) ((t1_3.getD t8.toNat (Ty.dflt YFWatchRule)).2.2.2.2.getD t9.toNat (Ty.dflt YAct)).2.1).bind fun r5 =>
      (if (decide (r5.1 < 0)) = true then
       some (9, ())
       else
       perigeeref8_CheckWatch.c4 n t1_0 t1_1 t1_2 t1_3 t8 (IntKind.wrap .i64 (t9 + 1))))
     else
     (if (decide (((t1_3.getD t8.toNat (Ty.dflt YFWatchRule)).2.2.2.2.getD t9.toNat (Ty.dflt YAct)).1 = 3)) = true then
      ((perigeeref8_ruleOf.f n (t1_0, (t1_1, (t1_2, t1_3))) ((t1_3.getD t8.toNat (Ty.dflt YFWatchRule)).2.2.2.2.getD t9.toNat (Ty.dflt YAct)).2.1).bind fun r6 =>
       (if (decide (r6.1 < 0)) = true then
        some (9, ())
        else
        perigeeref8_CheckWatch.c4 n t1_0 t1_1 t1_2 t1_3 t8 (IntKind.wrap .i64 (t9 + 1))))
      else
      perigeeref8_CheckWatch.c4 n t1_0 t1_1 t1_2 t1_3 t8 (IntKind.wrap .i64 (t9 + 1))))
    else none)
   else none)
  else
  perigeeref8_CheckWatch.c3 n t1_0 t1_1 t1_2 t1_3 (IntKind.wrap .i64 (t8 + 1)))
 else none) := by kernel_rfl
noncomputable def perigeeref8_CheckWatch.E (n : Nat) : FunE := fnE tab perigeeref8_CheckWatch.T perigeeref8_CheckWatch.ann Tryd.f23 perigeeref8_CheckWatch.ins perigeeref8_CheckWatch.outs n

noncomputable def perigeeref8_actWord.T : Nat → Nat → Option FunE := fun n => ofL none []
noncomputable def perigeeref8_actWord.ann : Nat → Option (List Keep) := ofL none []
noncomputable def perigeeref8_actWord.ins : List (Bool × Ty) := [(false, YAct)]
def perigeeref8_actWord.outs : List Ty := [.str]
noncomputable def perigeeref8_actWord.f (n : Nat) (a0 : DAct) : Option (List UInt8 × Unit) := (fnE tab perigeeref8_actWord.T perigeeref8_actWord.ann Tryd.f24 perigeeref8_actWord.ins perigeeref8_actWord.outs n).f (a0, ())
theorem perigeeref8_actWord.f_eq (n : Nat) (a0 : DAct) : perigeeref8_actWord.f n a0 =
 (if (decide (a0.1 = 1)) = true then
 some ([114, 97, 105, 115, 101], ())
 else
 (if (decide (a0.1 = 2)) = true then
  some ([111, 110], ())
  else
  (if (decide (a0.1 = 3)) = true then
   some ([111, 102, 102], ())
   else
   (if a0.2.2 = true then
    some ([115, 119, 105, 116, 99, 104, 45, 111, 102, 102], ())
    else
    some ([115, 119, 105, 116, 99, 104, 45, 111, 110], ()))))) := by kernel_rfl
noncomputable def perigeeref8_actWord.E (n : Nat) : FunE := fnE tab perigeeref8_actWord.T perigeeref8_actWord.ann Tryd.f24 perigeeref8_actWord.ins perigeeref8_actWord.outs n

noncomputable def perigeeref8_Text.T : Nat → Nat → Option FunE := fun n => ofL none [(23, some (perigeeref8_CheckWatch.E n)), (24, some (perigeeref8_actWord.E n))]
noncomputable def perigeeref8_Text.ann : Nat → Option (List Keep) := ofL none [(6, some [.obj 1 YFWatch, .slot 5, .slot 6]), (10, some [.obj 1 YFWatch, .slot 5, .slot 7]), (16, some [.obj 1 YFWatch, .slot 5, .slot 9]), (22, some [.obj 1 YFWatch, .slot 5, .slot 9, .obj 10 YFWatchRule, .slot 11, .slot 12]), (24, some [.obj 1 YFWatch, .slot 5, .slot 9, .obj 10 YFWatchRule, .slot 11, .slot 12]), (26, some [.obj 1 YFWatch, .slot 5, .slot 9, .obj 10 YFWatchRule, .slot 13])]
noncomputable def perigeeref8_Text.ins : List (Bool × Ty) := [(false, YFWatch)]
def perigeeref8_Text.outs : List Ty := [.str, (.int .i64)]
noncomputable def perigeeref8_Text.f (n : Nat) (t0 : DFWatch) : Option (List UInt8 × Int × Unit) := (fnE tab perigeeref8_Text.T perigeeref8_Text.ann Tryd.f9 perigeeref8_Text.ins perigeeref8_Text.outs n).f (t0, ())
noncomputable def perigeeref8_Text.c0 (n : Nat) (t1_0 : (List (List UInt8))) (t1_1 : (List DModeChange)) (t1_2 : List UInt8) (t1_3 : (List DFWatchRule)) (t5 : List UInt8) (t6 : Int) : Option (List UInt8 × Int × Unit) := cutN tab perigeeref8_Text.T perigeeref8_Text.ann Tryd.f9 perigeeref8_Text.ins perigeeref8_Text.outs n [1, 1, 1, 0, 1, 0] [(1, .val false [.ptr 1000001 0]), (5, .val false [.v .str t5]), (6, .val false [.v (.int .i64) t6])] [(1000001, .live (.cells 0 [.v (.sl .str) t1_0, .v (.sl YModeChange) t1_1, .v .str t1_2, .v (.sl YFWatchRule) t1_3]))]
noncomputable def perigeeref8_Text.c1 (n : Nat) (t1_0 : (List (List UInt8))) (t1_1 : (List DModeChange)) (t1_2 : List UInt8) (t1_3 : (List DFWatchRule)) (t5 : List UInt8) (t7 : Int) : Option (List UInt8 × Int × Unit) := cutN tab perigeeref8_Text.T perigeeref8_Text.ann Tryd.f9 perigeeref8_Text.ins perigeeref8_Text.outs n [1, 1, 1, 1, 0, 1, 0] [(1, .val false [.ptr 1000001 0]), (5, .val false [.v .str t5]), (7, .val false [.v (.int .i64) t7])] [(1000001, .live (.cells 0 [.v (.sl .str) t1_0, .v (.sl YModeChange) t1_1, .v .str t1_2, .v (.sl YFWatchRule) t1_3]))]
noncomputable def perigeeref8_Text.c2 (n : Nat) (t1_0 : (List (List UInt8))) (t1_1 : (List DModeChange)) (t1_2 : List UInt8) (t1_3 : (List DFWatchRule)) (t5 : List UInt8) (t9 : Int) : Option (List UInt8 × Int × Unit) := cutN tab perigeeref8_Text.T perigeeref8_Text.ann Tryd.f9 perigeeref8_Text.ins perigeeref8_Text.outs n [1, 1, 1, 1, 1, 1, 0, 1, 0] [(1, .val false [.ptr 1000001 0]), (5, .val false [.v .str t5]), (9, .val false [.v (.int .i64) t9])] [(1000001, .live (.cells 0 [.v (.sl .str) t1_0, .v (.sl YModeChange) t1_1, .v .str t1_2, .v (.sl YFWatchRule) t1_3]))]
noncomputable def perigeeref8_Text.c3 (n : Nat) (t1_0 : (List (List UInt8))) (t1_1 : (List DModeChange)) (t1_2 : List UInt8) (t1_3 : (List DFWatchRule)) (t5 : List UInt8) (t9 : Int) (t10_0 : List UInt8) (t10_1 : List UInt8) (t10_2 : List UInt8) (t10_3 : Bool) (t10_4 : (List DAct)) (t11 : List UInt8) (t12 : List UInt8) : Option (List UInt8 × Int × Unit) := cutN tab perigeeref8_Text.T perigeeref8_Text.ann Tryd.f9 perigeeref8_Text.ins perigeeref8_Text.outs n [1, 1, 1, 1, 1, 1, 0, 1, 0, 0, 1, 0, 0, 1, 1, 1] [(1, .val false [.ptr 1000001 0]), (5, .val false [.v .str t5]), (9, .val false [.v (.int .i64) t9]), (10, .val false [.ptr 1000010 0]), (11, .val false [.v .str t11]), (12, .val false [.v .str t12])] [(1000001, .live (.cells 0 [.v (.sl .str) t1_0, .v (.sl YModeChange) t1_1, .v .str t1_2, .v (.sl YFWatchRule) t1_3])), (1000010, .live (.cells 0 [.v .str t10_0, .v .str t10_1, .v .str t10_2, .v .bool t10_3, .v (.sl YAct) t10_4]))]
noncomputable def perigeeref8_Text.c4 (n : Nat) (t1_0 : (List (List UInt8))) (t1_1 : (List DModeChange)) (t1_2 : List UInt8) (t1_3 : (List DFWatchRule)) (t5 : List UInt8) (t9 : Int) (t10_0 : List UInt8) (t10_1 : List UInt8) (t10_2 : List UInt8) (t10_3 : Bool) (t10_4 : (List DAct)) (t11 : List UInt8) (t12 : List UInt8) : Option (List UInt8 × Int × Unit) := cutN tab perigeeref8_Text.T perigeeref8_Text.ann Tryd.f9 perigeeref8_Text.ins perigeeref8_Text.outs n [1, 1, 1, 1, 1, 1, 0, 1, 0, 0, 1, 0, 0, 1, 1, 1, 1] [(1, .val false [.ptr 1000001 0]), (5, .val false [.v .str t5]), (9, .val false [.v (.int .i64) t9]), (10, .val false [.ptr 1000010 0]), (11, .val false [.v .str t11]), (12, .val false [.v .str t12])] [(1000001, .live (.cells 0 [.v (.sl .str) t1_0, .v (.sl YModeChange) t1_1, .v .str t1_2, .v (.sl YFWatchRule) t1_3])), (1000010, .live (.cells 0 [.v .str t10_0, .v .str t10_1, .v .str t10_2, .v .bool t10_3, .v (.sl YAct) t10_4]))]
noncomputable def perigeeref8_Text.c5 (n : Nat) (t1_0 : (List (List UInt8))) (t1_1 : (List DModeChange)) (t1_2 : List UInt8) (t1_3 : (List DFWatchRule)) (t5 : List UInt8) (t9 : Int) (t10_0 : List UInt8) (t10_1 : List UInt8) (t10_2 : List UInt8) (t10_3 : Bool) (t10_4 : (List DAct)) (t13 : Int) : Option (List UInt8 × Int × Unit) := cutN tab perigeeref8_Text.T perigeeref8_Text.ann Tryd.f9 perigeeref8_Text.ins perigeeref8_Text.outs n [1, 1, 1, 1, 1, 1, 0, 1, 0, 0, 1, 0, 0, 1, 1, 1, 1, 1, 1, 0] [(1, .val false [.ptr 1000001 0]), (5, .val false [.v .str t5]), (9, .val false [.v (.int .i64) t9]), (10, .val false [.ptr 1000010 0]), (13, .val false [.v (.int .i64) t13])] [(1000001, .live (.cells 0 [.v (.sl .str) t1_0, .v (.sl YModeChange) t1_1, .v .str t1_2, .v (.sl YFWatchRule) t1_3])), (1000010, .live (.cells 0 [.v .str t10_0, .v .str t10_1, .v .str t10_2, .v .bool t10_3, .v (.sl YAct) t10_4]))]
theorem perigeeref8_Text.f_eq (n : Nat) (t0 : DFWatch) : perigeeref8_Text.f n t0 =
 ((perigeeref8_CheckWatch.f n t0).bind fun r1 =>
 (if (!(decide (r1.1 = 0))) = true then
  some ([], (r1.1, ()))
  else
  perigeeref8_Text.c0 n t0.1 t0.2.1 t0.2.2.1 t0.2.2.2 [] 0)) := by kernel_rfl
theorem perigeeref8_Text.c0_eq (n : Nat) (t1_0 : (List (List UInt8))) (t1_1 : (List DModeChange)) (t1_2 : List UInt8) (t1_3 : (List DFWatchRule)) (t5 : List UInt8) (t6 : Int) : perigeeref8_Text.c0 (n + 1) t1_0 t1_1 t1_2 t1_3 t5 t6 =
 (if (decide (t6 < (t1_0.length : Int))) = true then
 (if (0 : Int) ≤ t6 ∧ t6 < (t1_0.length : Int) then
  (if 5 + (t1_0.getD t6.toNat []).length ≤ 4611686018427387904 then
   (if ([109, 111, 100, 101, 32] ++ (t1_0.getD t6.toNat [])).length + 1 ≤ 4611686018427387904 then
    (if t5.length + (([109, 111, 100, 101, 32] ++ (t1_0.getD t6.toNat [])) ++ [10]).length ≤ 4611686018427387904 then
     perigeeref8_Text.c0 n t1_0 t1_1 t1_2 t1_3 (t5 ++ (([109, 111, 100, 101, 32] ++ (t1_0.getD t6.toNat [])) ++ [10])) (IntKind.wrap .i64 (t6 + 1))
     else none)
    else none)
   else none)
  else none)
 else
 perigeeref8_Text.c1 n t1_0 t1_1 t1_2 t1_3 t5 0) := by kernel_rfl
theorem perigeeref8_Text.c1_eq (n : Nat) (t1_0 : (List (List UInt8))) (t1_1 : (List DModeChange)) (t1_2 : List UInt8) (t1_3 : (List DFWatchRule)) (t5 : List UInt8) (t7 : Int) : perigeeref8_Text.c1 (n + 1) t1_0 t1_1 t1_2 t1_3 t5 t7 =
 (if (decide (t7 < (t1_1.length : Int))) = true then
 (if (0 : Int) ≤ t7 ∧ t7 < (t1_1.length : Int) then
  (if 7 + (t1_1.getD t7.toNat (Ty.dflt YModeChange)).1.length ≤ 4611686018427387904 then
   (if ([99, 104, 97, 110, 103, 101, 32] ++ (t1_1.getD t7.toNat (Ty.dflt YModeChange)).1).length + 1 ≤ 4611686018427387904 then
    (if (([99, 104, 97, 110, 103, 101, 32] ++ (t1_1.getD t7.toNat (Ty.dflt YModeChange)).1) ++ [32]).length + (t1_1.getD t7.toNat (Ty.dflt YModeChange)).2.1.length ≤ 4611686018427387904 then
     (if ((([99, 104, 97, 110, 103, 101, 32] ++ (t1_1.getD t7.toNat (Ty.dflt YModeChange)).1) ++ [32]) ++ (t1_1.getD t7.toNat (Ty.dflt YModeChange)).2.1).length + 1 ≤ 4611686018427387904 then
      (if (((([99, 104, 97, 110, 103, 101, 32] ++ (t1_1.getD t7.toNat (Ty.dflt YModeChange)).1) ++ [32]) ++ (t1_1.getD t7.toNat (Ty.dflt YModeChange)).2.1) ++ [32]).length + (t1_1.getD t7.toNat (Ty.dflt YModeChange)).2.2.length ≤ 4611686018427387904 then
       (if ((((([99, 104, 97, 110, 103, 101, 32] ++ (t1_1.getD t7.toNat (Ty.dflt YModeChange)).1) ++ [32]) ++ (t1_1.getD t7.toNat (Ty.dflt YModeChange)).2.1) ++ [32]) ++ (t1_1.getD t7.toNat (Ty.dflt YModeChange)).2.2).length + 1 ≤ 4611686018427387904 then
        (if t5.length + (((((([99, 104, 97, 110, 103, 101, 32] ++ (t1_1.getD t7.toNat (Ty.dflt YModeChange)).1) ++ [32]) ++ (t1_1.getD t7.toNat (Ty.dflt YModeChange)).2.1) ++ [32]) ++ (t1_1.getD t7.toNat (Ty.dflt YModeChange)).2.2) ++ [10]).length ≤ 4611686018427387904 then
         perigeeref8_Text.c1 n t1_0 t1_1 t1_2 t1_3 (t5 ++ (((((([99, 104, 97, 110, 103, 101, 32] ++ (t1_1.getD t7.toNat (Ty.dflt YModeChange)).1) ++ [32]) ++ (t1_1.getD t7.toNat (Ty.dflt YModeChange)).2.1) ++ [32]) ++ (t1_1.getD t7.toNat (Ty.dflt YModeChange)).2.2) ++ [10])) (IntKind.wrap .i64 (t7 + 1))
         else none)
        else none)
       else none)
      else none)
     else none)
    else none)
   else none)
  else none)
 else
 (if 6 + t1_2.length ≤ 4611686018427387904 then
  (if ([98, 101, 103, 105, 110, 32] ++ t1_2).length + 1 ≤ 4611686018427387904 then
   (if t5.length + (([98, 101, 103, 105, 110, 32] ++ t1_2) ++ [10]).length ≤ 4611686018427387904 then
    perigeeref8_Text.c2 n t1_0 t1_1 t1_2 t1_3 (t5 ++ (([98, 101, 103, 105, 110, 32] ++ t1_2) ++ [10])) 0
    else none)
   else none)
  else none)) := by kernel_rfl
theorem perigeeref8_Text.c2_eq (n : Nat) (t1_0 : (List (List UInt8))) (t1_1 : (List DModeChange)) (t1_2 : List UInt8) (t1_3 : (List DFWatchRule)) (t5 : List UInt8) (t9 : Int) : perigeeref8_Text.c2 (n + 1) t1_0 t1_1 t1_2 t1_3 t5 t9 =
 (if (decide (t9 < (t1_3.length : Int))) = true then
 (if (0 : Int) ≤ t9 ∧ t9 < (t1_3.length : Int) then
  (if (decide (((t1_3.getD t9.toNat (Ty.dflt YFWatchRule)).2.2.1 : List UInt8) = [])) = true then
   perigeeref8_Text.c3 n t1_0 t1_1 t1_2 t1_3 t5 t9 (t1_3.getD t9.toNat (Ty.dflt YFWatchRule)).1 (t1_3.getD t9.toNat (Ty.dflt YFWatchRule)).2.1 (t1_3.getD t9.toNat (Ty.dflt YFWatchRule)).2.2.1 (t1_3.getD t9.toNat (Ty.dflt YFWatchRule)).2.2.2.1 (t1_3.getD t9.toNat (Ty.dflt YFWatchRule)).2.2.2.2 [42] [97, 108, 119, 97, 121, 115]
   else
   perigeeref8_Text.c3 n t1_0 t1_1 t1_2 t1_3 t5 t9 (t1_3.getD t9.toNat (Ty.dflt YFWatchRule)).1 (t1_3.getD t9.toNat (Ty.dflt YFWatchRule)).2.1 (t1_3.getD t9.toNat (Ty.dflt YFWatchRule)).2.2.1 (t1_3.getD t9.toNat (Ty.dflt YFWatchRule)).2.2.2.1 (t1_3.getD t9.toNat (Ty.dflt YFWatchRule)).2.2.2.2 (t1_3.getD t9.toNat (Ty.dflt YFWatchRule)).2.2.1 [97, 108, 119, 97, 121, 115])
  else none)
 else
 (if (decide (200000 < (t5.length : Int))) = true then
  some ([], (2, ()))
  else
  some (t5, (0, ())))) := by kernel_rfl
theorem perigeeref8_Text.c3_eq (n : Nat) (t1_0 : (List (List UInt8))) (t1_1 : (List DModeChange)) (t1_2 : List UInt8) (t1_3 : (List DFWatchRule)) (t5 : List UInt8) (t9 : Int) (t10_0 : List UInt8) (t10_1 : List UInt8) (t10_2 : List UInt8) (t10_3 : Bool) (t10_4 : (List DAct)) (t11 : List UInt8) (t12 : List UInt8) : perigeeref8_Text.c3 (n + 1) t1_0 t1_1 t1_2 t1_3 t5 t9 t10_0 t10_1 t10_2 t10_3 t10_4 t11 t12 =
 (if t10_3 = true then
 perigeeref8_Text.c4 n t1_0 t1_1 t1_2 t1_3 t5 t9 t10_0 t10_1 t10_2 t10_3 t10_4 t11 [111, 110, 99, 101]
 else
 perigeeref8_Text.c4 n t1_0 t1_1 t1_2 t1_3 t5 t9 t10_0 t10_1 t10_2 t10_3 t10_4 t11 t12) := by kernel_rfl
theorem perigeeref8_Text.c4_eq (n : Nat) (t1_0 : (List (List UInt8))) (t1_1 : (List DModeChange)) (t1_2 : List UInt8) (t1_3 : (List DFWatchRule)) (t5 : List UInt8) (t9 : Int) (t10_0 : List UInt8) (t10_1 : List UInt8) (t10_2 : List UInt8) (t10_3 : Bool) (t10_4 : (List DAct)) (t11 : List UInt8) (t12 : List UInt8) : perigeeref8_Text.c4 (n + 1) t1_0 t1_1 t1_2 t1_3 t5 t9 t10_0 t10_1 t10_2 t10_3 t10_4 t11 t12 =
 (if 5 + t10_0.length ≤ 4611686018427387904 then
 (if ([114, 117, 108, 101, 32] ++ t10_0).length + 1 ≤ 4611686018427387904 then
  (if (([114, 117, 108, 101, 32] ++ t10_0) ++ [32]).length + t10_1.length ≤ 4611686018427387904 then
   (if ((([114, 117, 108, 101, 32] ++ t10_0) ++ [32]) ++ t10_1).length + 1 ≤ 4611686018427387904 then
    (if (((([114, 117, 108, 101, 32] ++ t10_0) ++ [32]) ++ t10_1) ++ [32]).length + t11.length ≤ 4611686018427387904 then
     (if ((((([114, 117, 108, 101, 32] ++ t10_0) ++ [32]) ++ t10_1) ++ [32]) ++ t11).length + 1 ≤ 4611686018427387904 then
      (if (((((([114, 117, 108, 101, 32] ++ t10_0) ++ [32]) ++ t10_1) ++ [32]) ++ t11) ++ [32]).length + t12.length ≤ 4611686018427387904 then
       (if ((((((([114, 117, 108, 101, 32] ++ t10_0) ++ [32]) ++ t10_1) ++ [32]) ++ t11) ++ [32]) ++ t12).length + 1 ≤ 4611686018427387904 then
        (if t5.length + (((((((([114, 117, 108, 101, 32] ++ t10_0) ++ [32]) ++ t10_1) ++ [32]) ++ t11) ++ [32]) ++ t12) ++ [10]).length ≤ 4611686018427387904 then
         perigeeref8_Text.c5 n t1_0 t1_1 t1_2 t1_3 (t5 ++ (((((((([114, 117, 108, 101, 32] ++ t10_0) ++ [32]) ++ t10_1) ++ [32]) ++ t11) ++ [32]) ++ t12) ++ [10])) t9 t10_0 t10_1 t10_2 t10_3 t10_4 0
         else none)
        else none)
       else none)
      else none)
     else none)
    else none)
   else none)
  else none)
 else none) := by kernel_rfl
theorem perigeeref8_Text.c5_eq (n : Nat) (t1_0 : (List (List UInt8))) (t1_1 : (List DModeChange)) (t1_2 : List UInt8) (t1_3 : (List DFWatchRule)) (t5 : List UInt8) (t9 : Int) (t10_0 : List UInt8) (t10_1 : List UInt8) (t10_2 : List UInt8) (t10_3 : Bool) (t10_4 : (List DAct)) (t13 : Int) : perigeeref8_Text.c5 (n + 1) t1_0 t1_1 t1_2 t1_3 t5 t9 t10_0 t10_1 t10_2 t10_3 t10_4 t13 =
 (if (decide (t13 < (t10_4.length : Int))) = true then
 (if (0 : Int) ≤ t13 ∧ t13 < (t10_4.length : Int) then
  ((perigeeref8_actWord.f n (t10_4.getD t13.toNat (Ty.dflt YAct))).bind fun r2 =>
   (if r2.1.length + 1 ≤ 4611686018427387904 then
    (if (0 : Int) ≤ t13 ∧ t13 < (t10_4.length : Int) then
     (if (r2.1 ++ [32]).length + (t10_4.getD t13.toNat (Ty.dflt YAct)).2.1.length ≤ 4611686018427387904 then
      (if ((r2.1 ++ [32]) ++ (t10_4.getD t13.toNat (Ty.dflt YAct)).2.1).length + 1 ≤ 4611686018427387904 then
       (if t5.length + (((r2.1 ++ [32]) ++ (t10_4.getD t13.toNat (Ty.dflt YAct)).2.1) ++ [10]).length ≤ 4611686018427387904 then
        perigeeref8_Text.c5 n t1_0 t1_1 t1_2 t1_3 (t5 ++ (((r2.1 ++ [32]) ++ (t10_4.getD t13.toNat (Ty.dflt YAct)).2.1) ++ [10])) t9 t10_0 t10_1 t10_2 t10_3 t10_4 (IntKind.wrap .i64 (t13 + 1))
        else none)
       else none)
      else none)
     else none)
    else none))
  else none)
 else
 perigeeref8_Text.c2 n t1_0 t1_1 t1_2 t1_3 t5 (IntKind.wrap .i64 (t9 + 1))) := by kernel_rfl
noncomputable def perigeeref8_words.T : Nat → Nat → Option FunE := fun n => ofL none [(55, some (strings_Split.E n))]
noncomputable def perigeeref8_words.ann : Nat → Option (List Keep) := ofL none [(3, some [.slot 4, .slot 5]), (6, some [.slot 4, .slot 5, .slot 6])]
noncomputable def perigeeref8_words.ins : List (Bool × Ty) := [(false, .str)]
def perigeeref8_words.outs : List Ty := [(.sl .str), .bool]
noncomputable def perigeeref8_words.E (n : Nat) : FunE := fnE tab perigeeref8_words.T perigeeref8_words.ann Tryd.f47 perigeeref8_words.ins perigeeref8_words.outs n

noncomputable def perigeeref8_actOf.T : Nat → Nat → Option FunE := fun n => ofL none []
noncomputable def perigeeref8_actOf.ann : Nat → Option (List Keep) := ofL none [(13, some [.obj 4 YAct, .obj 6 YAct])]
noncomputable def perigeeref8_actOf.ins : List (Bool × Ty) := [(false, .str), (false, .str)]
def perigeeref8_actOf.outs : List Ty := [YAct, .bool]
noncomputable def perigeeref8_actOf.f (n : Nat) (word0 : List UInt8) (name1 : List UInt8) : Option (DAct × Bool × Unit) := (fnE tab perigeeref8_actOf.T perigeeref8_actOf.ann Tryd.f48 perigeeref8_actOf.ins perigeeref8_actOf.outs n).f (word0, (name1, ()))
noncomputable def perigeeref8_actOf.c0 (n : Nat) (t4_0 : Int) (t4_1 : List UInt8) (t4_2 : Bool) (a6_0 : Int) (a6_1 : List UInt8) (a6_2 : Bool) : Option (DAct × Bool × Unit) := cutN tab perigeeref8_actOf.T perigeeref8_actOf.ann Tryd.f48 perigeeref8_actOf.ins perigeeref8_actOf.outs n [1, 1, 1] [(4, .val false [.ptr 1000004 0]), (6, .val false [.ptr 1000006 0])] [(1000004, .live (.cells 0 [.v (.int .i64) t4_0, .v .str t4_1, .v .bool t4_2])), (1000006, .live (.cells 0 [.v (.int .i64) a6_0, .v .str a6_1, .v .bool a6_2]))]
theorem perigeeref8_actOf.f_eq (n : Nat) (word0 : List UInt8) (name1 : List UInt8) : perigeeref8_actOf.f n word0 name1 =
 (if (decide ((word0 : List UInt8) = [114, 97, 105, 115, 101])) = true then
 perigeeref8_actOf.c0 n 0 [] false 1 name1 false
 else
 (if (decide ((word0 : List UInt8) = [111, 110])) = true then
  perigeeref8_actOf.c0 n 0 [] false 2 name1 false
  else
  (if (decide ((word0 : List UInt8) = [111, 102, 102])) = true then
   perigeeref8_actOf.c0 n 0 [] false 3 name1 false
   else
   (if (decide ((word0 : List UInt8) = [115, 119, 105, 116, 99, 104, 45, 111, 110])) = true then
    perigeeref8_actOf.c0 n 0 [] false 4 name1 false
    else
    (if (decide ((word0 : List UInt8) = [115, 119, 105, 116, 99, 104, 45, 111, 102, 102])) = true then
     perigeeref8_actOf.c0 n 0 [] false 4 name1 true
     else
     perigeeref8_actOf.c0 n 0 [] false 0 name1 false))))) := by kernel_rfl
theorem perigeeref8_actOf.c0_eq (n : Nat) (t4_0 : Int) (t4_1 : List UInt8) (t4_2 : Bool) (a6_0 : Int) (a6_1 : List UInt8) (a6_2 : Bool) : perigeeref8_actOf.c0 (n + 1) t4_0 t4_1 t4_2 a6_0 a6_1 a6_2 =
 some ((a6_0, (a6_1, a6_2)), ((decide (0 < a6_0)), ())) := by kernel_rfl
noncomputable def perigeeref8_actOf.E (n : Nat) : FunE := fnE tab perigeeref8_actOf.T perigeeref8_actOf.ann Tryd.f48 perigeeref8_actOf.ins perigeeref8_actOf.outs n

noncomputable def perigeeref8_line.T : Nat → Nat → Option FunE := fun n => ofL none [(47, some (perigeeref8_words.E n)), (48, some (perigeeref8_actOf.E n))]
noncomputable def perigeeref8_line.ann : Nat → Option (List Keep) := ofL none [(21, some [.obj 0 YWatch, .slot 7, .slot 9]), (2000005, some [.obj 0 YWatch, .slot 7, .slot 30]), (2000008, some [.obj 0 YWatch, .obj 10 YAct, .slot 42]), (2000012, some [.obj 0 YWatch, .slot 2, .slot 7, .slot 64]), (2000014, some [.obj 0 YWatch, .slot 2, .slot 7, .slot 98]), (2000016, some [.obj 0 YWatch, .slot 2, .slot 7, .slot 131]), (2000018, some [.obj 0 YWatch, .slot 7, .slot 151]), (5000010, some [.view 12 0])]
noncomputable def perigeeref8_line.ins : List (Bool × Ty) := [(true, YWatch), (false, .str), (false, .bool)]
def perigeeref8_line.outs : List Ty := [.bool]
noncomputable def perigeeref8_line.c0 (n : Nat) (t0_0 : (List (List UInt8))) (t0_1 : (List DModeChange)) (t0_2 : List UInt8) (t0_3 : (List DWatchRule)) (t2 : Bool) (t7 : (List (List UInt8))) (t64 : Bool) : Option (Bool × DWatch × Unit) := cutN tab perigeeref8_line.T perigeeref8_line.ann Tryd.f26 perigeeref8_line.ins perigeeref8_line.outs n [1, 1, 1, 0, 0, 1] [(0, .val false [.ptr 1000000 0]), (2, .val false [.v .bool t2]), (7, .val false [.v (.sl .str) t7]), (64, .val false [.v .bool t64])] [(1000000, .live (.cells 1 [.v (.vec .str) t0_0, .v (.vec YModeChange) t0_1, .v .str t0_2, .v (.vec YWatchRule) t0_3]))]
noncomputable def perigeeref8_line.c1 (n : Nat) (t0_0 : (List (List UInt8))) (t0_1 : (List DModeChange)) (t0_2 : List UInt8) (t0_3 : (List DWatchRule)) (t2 : Bool) (t7 : (List (List UInt8))) (t98 : Bool) : Option (Bool × DWatch × Unit) := cutN tab perigeeref8_line.T perigeeref8_line.ann Tryd.f26 perigeeref8_line.ins perigeeref8_line.outs n [1, 1, 1, 0, 0, 1, 1, 1] [(0, .val false [.ptr 1000000 0]), (2, .val false [.v .bool t2]), (7, .val false [.v (.sl .str) t7]), (98, .val false [.v .bool t98])] [(1000000, .live (.cells 1 [.v (.vec .str) t0_0, .v (.vec YModeChange) t0_1, .v .str t0_2, .v (.vec YWatchRule) t0_3]))]
noncomputable def perigeeref8_line.c2 (n : Nat) (t0_0 : (List (List UInt8))) (t0_1 : (List DModeChange)) (t0_2 : List UInt8) (t0_3 : (List DWatchRule)) (t2 : Bool) (t7 : (List (List UInt8))) (t131 : Bool) : Option (Bool × DWatch × Unit) := cutN tab perigeeref8_line.T perigeeref8_line.ann Tryd.f26 perigeeref8_line.ins perigeeref8_line.outs n [1, 1, 1, 0, 0, 1, 1, 1, 1, 1] [(0, .val false [.ptr 1000000 0]), (2, .val false [.v .bool t2]), (7, .val false [.v (.sl .str) t7]), (131, .val false [.v .bool t131])] [(1000000, .live (.cells 1 [.v (.vec .str) t0_0, .v (.vec YModeChange) t0_1, .v .str t0_2, .v (.vec YWatchRule) t0_3]))]
noncomputable def perigeeref8_line.c3 (n : Nat) (t0_0 : (List (List UInt8))) (t0_1 : (List DModeChange)) (t0_2 : List UInt8) (t0_3 : (List DWatchRule)) (t7 : (List (List UInt8))) (t151 : Bool) : Option (Bool × DWatch × Unit) := cutN tab perigeeref8_line.T perigeeref8_line.ann Tryd.f26 perigeeref8_line.ins perigeeref8_line.outs n [1, 1, 1, 0, 0, 1, 1, 1, 1, 1, 1, 1] [(0, .val false [.ptr 1000000 0]), (7, .val false [.v (.sl .str) t7]), (151, .val false [.v .bool t151])] [(1000000, .live (.cells 1 [.v (.vec .str) t0_0, .v (.vec YModeChange) t0_1, .v .str t0_2, .v (.vec YWatchRule) t0_3]))]
noncomputable def perigeeref8_line.c4 (n : Nat) (t0_0 : (List (List UInt8))) (t0_1 : (List DModeChange)) (t0_2 : List UInt8) (t0_3 : (List DWatchRule)) (t7 : (List (List UInt8))) (t9 : List UInt8) : Option (Bool × DWatch × Unit) := cutN tab perigeeref8_line.T perigeeref8_line.ann Tryd.f26 perigeeref8_line.ins perigeeref8_line.outs n [1, 1, 1, 0, 0, 1, 1, 1, 1, 1, 1, 1, 0, 1, 1] [(0, .val false [.ptr 1000000 0]), (7, .val false [.v (.sl .str) t7]), (9, .val false [.v .str t9])] [(1000000, .live (.cells 1 [.v (.vec .str) t0_0, .v (.vec YModeChange) t0_1, .v .str t0_2, .v (.vec YWatchRule) t0_3]))]
noncomputable def perigeeref8_line.c5 (n : Nat) (t0_0 : (List (List UInt8))) (t0_1 : (List DModeChange)) (t0_2 : List UInt8) (t0_3 : (List DWatchRule)) (t7 : (List (List UInt8))) (t30 : Bool) : Option (Bool × DWatch × Unit) := cutN tab perigeeref8_line.T perigeeref8_line.ann Tryd.f26 perigeeref8_line.ins perigeeref8_line.outs n [1, 1, 1, 0, 0, 1, 1, 1, 1, 1, 1, 1, 1, 0, 1] [(0, .val false [.ptr 1000000 0]), (7, .val false [.v (.sl .str) t7]), (30, .val false [.v .bool t30])] [(1000000, .live (.cells 1 [.v (.vec .str) t0_0, .v (.vec YModeChange) t0_1, .v .str t0_2, .v (.vec YWatchRule) t0_3]))]
noncomputable def perigeeref8_line.c6 (n : Nat) (t0_0 : (List (List UInt8))) (t0_1 : (List DModeChange)) (t0_2 : List UInt8) (t0_3 : (List DWatchRule)) (t10_0 : Int) (t10_1 : List UInt8) (t10_2 : Bool) (t42 : Bool) : Option (Bool × DWatch × Unit) := cutN tab perigeeref8_line.T perigeeref8_line.ann Tryd.f26 perigeeref8_line.ins perigeeref8_line.outs n [1, 1, 1, 0, 0, 1, 1, 1, 1, 1, 1, 1, 1, 1, 1, 0, 1] [(0, .val false [.ptr 1000000 0]), (10, .val false [.ptr 1000010 0]), (42, .val false [.v .bool t42])] [(1000000, .live (.cells 1 [.v (.vec .str) t0_0, .v (.vec YModeChange) t0_1, .v .str t0_2, .v (.vec YWatchRule) t0_3])), (1000010, .live (.cells 0 [.v (.int .i64) t10_0, .v .str t10_1, .v .bool t10_2]))]
theorem perigeeref8_line.c0_eq (n : Nat) (t0_0 : (List (List UInt8))) (t0_1 : (List DModeChange)) (t0_2 : List UInt8) (t0_3 : (List DWatchRule)) (t2 : Bool) (t7 : (List (List UInt8))) (t64 : Bool) : perigeeref8_line.c0 (n + 1) t0_0 t0_1 t0_2 t0_3 t2 t7 t64 =
 (if t64 = true then
 (if (0 : Int) ≤ 1 ∧ 1 < (t7.length : Int) then
  (if t0_0.length + 1 ≤ 1099511627776 then
   some (true, (((t0_0 ++ [(t7.getD 1 [])]), (t0_1, (t0_2, t0_3))), ()))
   else none)
  else none)
 else
 (if (0 : Int) ≤ 0 ∧ 0 < (t7.length : Int) then
  (if (decide (((t7.getD 0 []) : List UInt8) = [99, 104, 97, 110, 103, 101])) = true then
   (if (decide ((t7.length : Int) = 4)) = true then
    perigeeref8_line.c1 n t0_0 t0_1 t0_2 t0_3 t2 t7 (!t2)
    else
    perigeeref8_line.c1 n t0_0 t0_1 t0_2 t0_3 t2 t7 false)
   else
   perigeeref8_line.c1 n t0_0 t0_1 t0_2 t0_3 t2 t7 false)
  else none)) := by kernel_rfl
theorem perigeeref8_line.c1_eq (n : Nat) (t0_0 : (List (List UInt8))) (t0_1 : (List DModeChange)) (t0_2 : List UInt8) (t0_3 : (List DWatchRule)) (t2 : Bool) (t7 : (List (List UInt8))) (t98 : Bool) : perigeeref8_line.c1 (n + 1) t0_0 t0_1 t0_2 t0_3 t2 t7 t98 =
 (if t98 = true then
 (if (0 : Int) ≤ 1 ∧ 1 < (t7.length : Int) then
  (if (0 : Int) ≤ 2 ∧ 2 < (t7.length : Int) then
   (if (0 : Int) ≤ 3 ∧ 3 < (t7.length : Int) then
    (if t0_1.length + 1 ≤ 1099511627776 then
     some (true, ((t0_0, ((t0_1 ++ [((t7.getD 1 []), ((t7.getD 2 []), (t7.getD 3 [])))]), (t0_2, t0_3))), ()))
     else none)
    else none)
   else none)
  else none)
 else
 (if (0 : Int) ≤ 0 ∧ 0 < (t7.length : Int) then
  (if (decide (((t7.getD 0 []) : List UInt8) = [98, 101, 103, 105, 110])) = true then
   (if (decide ((t7.length : Int) = 2)) = true then
    perigeeref8_line.c2 n t0_0 t0_1 t0_2 t0_3 t2 t7 (!t2)
    else
    perigeeref8_line.c2 n t0_0 t0_1 t0_2 t0_3 t2 t7 false)
   else
   perigeeref8_line.c2 n t0_0 t0_1 t0_2 t0_3 t2 t7 false)
  else none)) := by kernel_rfl
theorem perigeeref8_line.c2_eq (n : Nat) (t0_0 : (List (List UInt8))) (t0_1 : (List DModeChange)) (t0_2 : List UInt8) (t0_3 : (List DWatchRule)) (t2 : Bool) (t7 : (List (List UInt8))) (t131 : Bool) : perigeeref8_line.c2 (n + 1) t0_0 t0_1 t0_2 t0_3 t2 t7 t131 =
 (if t131 = true then
 (if (0 : Int) ≤ 1 ∧ 1 < (t7.length : Int) then
  some (true, ((t0_0, (t0_1, ((t7.getD 1 []), t0_3))), ()))
  else none)
 else
 (if (0 : Int) ≤ 0 ∧ 0 < (t7.length : Int) then
  (if (decide (((t7.getD 0 []) : List UInt8) = [114, 117, 108, 101])) = true then
   (if (decide ((t7.length : Int) = 5)) = true then
    (if t2 = true then
     (if (0 : Int) ≤ 4 ∧ 4 < (t7.length : Int) then
      (if (decide (((t7.getD 4 []) : List UInt8) = [111, 110, 99, 101])) = true then
       perigeeref8_line.c3 n t0_0 t0_1 t0_2 t0_3 t7 true
       else
       (if (0 : Int) ≤ 4 ∧ 4 < (t7.length : Int) then
        perigeeref8_line.c3 n t0_0 t0_1 t0_2 t0_3 t7 (decide (((t7.getD 4 []) : List UInt8) = [97, 108, 119, 97, 121, 115]))
        else none))
      else none)
     else
     perigeeref8_line.c3 n t0_0 t0_1 t0_2 t0_3 t7 false)
    else
    perigeeref8_line.c3 n t0_0 t0_1 t0_2 t0_3 t7 false)
   else
   perigeeref8_line.c3 n t0_0 t0_1 t0_2 t0_3 t7 false)
  else none)) := by kernel_rfl
theorem perigeeref8_line.c3_eq (n : Nat) (t0_0 : (List (List UInt8))) (t0_1 : (List DModeChange)) (t0_2 : List UInt8) (t0_3 : (List DWatchRule)) (t7 : (List (List UInt8))) (t151 : Bool) : perigeeref8_line.c3 (n + 1) t0_0 t0_1 t0_2 t0_3 t7 t151 =
 (if t151 = true then
 (if (0 : Int) ≤ 3 ∧ 3 < (t7.length : Int) then
  (if (decide (((t7.getD 3 []) : List UInt8) = [42])) = true then
   perigeeref8_line.c4 n t0_0 t0_1 t0_2 t0_3 t7 []
   else
   perigeeref8_line.c4 n t0_0 t0_1 t0_2 t0_3 t7 (t7.getD 3 []))
  else none)
 else
 (if (!(decide ((t7.length : Int) = 2))) = true then
  perigeeref8_line.c5 n t0_0 t0_1 t0_2 t0_3 t7 true
  else
  perigeeref8_line.c5 n t0_0 t0_1 t0_2 t0_3 t7 (decide ((t0_3.length : Int) = 0)))) := by kernel_rfl
theorem perigeeref8_line.c4_eq (n : Nat) (t0_0 : (List (List UInt8))) (t0_1 : (List DModeChange)) (t0_2 : List UInt8) (t0_3 : (List DWatchRule)) (t7 : (List (List UInt8))) (t9 : List UInt8) : perigeeref8_line.c4 (n + 1) t0_0 t0_1 t0_2 t0_3 t7 t9 =
 (if (0 : Int) ≤ 1 ∧ 1 < (t7.length : Int) then
 (if (0 : Int) ≤ 2 ∧ 2 < (t7.length : Int) then
  (if (0 : Int) ≤ 4 ∧ 4 < (t7.length : Int) then
   (if t0_3.length + 1 ≤ 1099511627776 then
    some (true, ((t0_0, (t0_1, (t0_2, (t0_3 ++ [((t7.getD 1 []), ((t7.getD 2 []), (t9, ((decide (((t7.getD 4 []) : List UInt8) = [111, 110, 99, 101])), []))))])))), ()))
    else none)
   else none)
  else none)
 else none) := by kernel_rfl
theorem perigeeref8_line.c5_eq (n : Nat) (t0_0 : (List (List UInt8))) (t0_1 : (List DModeChange)) (t0_2 : List UInt8) (t0_3 : (List DWatchRule)) (t7 : (List (List UInt8))) (t30 : Bool) : perigeeref8_line.c5 (n + 1) t0_0 t0_1 t0_2 t0_3 t7 t30 =
 (if t30 = true then
 some (false, ((t0_0, (t0_1, (t0_2, t0_3))), ()))
 else
 (if (0 : Int) ≤ 0 ∧ 0 < (t7.length : Int) then
  (if (0 : Int) ≤ 1 ∧ 1 < (t7.length : Int) then
   ((perigeeref8_actOf.f n (t7.getD 0 []) (t7.getD 1 [])).bind fun r2 =>
    perigeeref8_line.c6 n t0_0 t0_1 t0_2 t0_3 r2.1.1 r2.1.2.1 r2.1.2.2 (!r2.2.1))
   else none)
  else none)) := by kernel_rfl
theorem perigeeref8_line.c6_eq (n : Nat) (t0_0 : (List (List UInt8))) (t0_1 : (List DModeChange)) (t0_2 : List UInt8) (t0_3 : (List DWatchRule)) (t10_0 : Int) (t10_1 : List UInt8) (t10_2 : Bool) (t42 : Bool) : perigeeref8_line.c6 (n + 1) t0_0 t0_1 t0_2 t0_3 t10_0 t10_1 t10_2 t42 =
 (if t42 = true then
 some (false, ((t0_0, (t0_1, (t0_2, t0_3))), ()))
 else
 (if (0 : Int) ≤ (IntKind.wrap .i64 ((t0_3.length : Int) - 1)) ∧ (IntKind.wrap .i64 ((t0_3.length : Int) - 1)) < (t0_3.length : Int) then
  (if (t0_3.getD (IntKind.wrap .i64 ((t0_3.length : Int) - 1)).toNat (Ty.dflt YWatchRule)).2.2.2.2.length + 1 ≤ 1099511627776 then
   some (true, ((t0_0, (t0_1, (t0_2, (t0_3.set (IntKind.wrap .i64 ((t0_3.length : Int) - 1)).toNat ((t0_3.getD (IntKind.wrap .i64 ((t0_3.length : Int) - 1)).toNat (Ty.dflt YWatchRule)).1, ((t0_3.getD (IntKind.wrap .i64 ((t0_3.length : Int) - 1)).toNat (Ty.dflt YWatchRule)).2.1, ((t0_3.getD (IntKind.wrap .i64 ((t0_3.length : Int) - 1)).toNat (Ty.dflt YWatchRule)).2.2.1, ((t0_3.getD (IntKind.wrap .i64 ((t0_3.length : Int) - 1)).toNat (Ty.dflt YWatchRule)).2.2.2.1, ((t0_3.getD (IntKind.wrap .i64 ((t0_3.length : Int) - 1)).toNat (Ty.dflt YWatchRule)).2.2.2.2 ++ [(t10_0, (t10_1, t10_2))]))))))))), ()))
   else none)
  else none)) := by kernel_rfl
end Go.Proofs.YtadhpgecilhgnaaDoor.A
