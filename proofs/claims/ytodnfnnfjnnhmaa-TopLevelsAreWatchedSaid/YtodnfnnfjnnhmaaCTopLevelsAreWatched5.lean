/- A watch over the levels of a battery has an alarm below its floor just if the battery is empty at some moment. -/
import Derived.Test.YtodnfnnfjnnhmaaCTopLevelsAreWatched4
-- YtodnfnnfjnnhmaaR6
set_option linter.unusedVariables false
set_option linter.unusedSimpArgs false
namespace Go.Proofs.Ytodnfnnfjnnhmaa.Pure
open Go Go.Proofs.Ytodnfnnfjnnhmaa.A
theorem last_drop (l : List Int) (x : Int) : (l ++ [x]).drop ((l ++ [x]).length - (1 : Int).toNat) = [x] := by
 have : (l ++ [x]).length - (1 : Int).toNat = l.length := by simp
 rw [this, List.drop_left]
theorem now_last {x : DLimit} (hc : cntOf x = 1) (hr : clrOf x = 1) (hb : bkOf x = 0) (us : List Int) (v : Int) : nowOf x (us ++ [v]) = st x v := by
 obtain ⟨t1, t2, t3, t4⟩ := tr_facts x _ us rfl
 have r := st_rng x v
 have n := t4.now
 unfold nowOf
 rw [tr_snoc]
 generalize tr x us = f at *
 obtain ⟨y, now, bare, out⟩ := f
 simp only at t1 n
 subst t1
 have hbest : best y (bare ++ [st y v]) = st y v := by
  unfold best
  rw [hc, last_drop]
  simp only [List.foldl_cons, List.foldl_nil]
  unfold mnI; split <;> omega
 have hfar : far y v = st y v := by
  unfold far
  rw [hb, Int.sub_zero, Int.add_zero]
  unfold mxI; split <;> omega
 have hworst : worst y (out ++ [far y v]) = st y v := by
  unfold worst
  rw [hr, last_drop, hfar]
  simp only [List.foldl_cons, List.foldl_nil]
  unfold mxI; split <;> omega
 unfold stp second
 simp only
 rw [hbest, hworst, hc, hr]
 have l1 : (1 : Int) ≤ ((bare ++ [st y v]).length : Int) := by simp; omega
 have l2 : (1 : Int) ≤ ((out ++ [far y v]).length : Int) := by simp; omega
 by_cases h1 : now < st y v
 ·rw [if_pos ⟨l1, h1⟩]
 ·rw [if_neg (fun h => h1 h.2)]
  by_cases h2 : st y v < now
  ·rw [if_pos ⟨l2, h2⟩]
  ·rw [if_neg (fun h => h2 h.2)]
   show now = st y v
   omega

def nx (room v : Int) (p : Dpiece) : Int := mnI room (mxI 0 (v + p.2.2 * (p.2.1 - p.1)))
def foll (room : Int) : Int → List Dpiece → List DLevel
 | _, [] => []
 | v, p :: P => (p.2.1, nx room v p) :: foll room (nx room v p) P
theorem nx_rng {room v : Int} {p : Dpiece} (h : 0 ≤ room) : 0 ≤ nx room v p ∧ nx room v p ≤ room := by
 unfold nx mnI mxI
 (repeat' split) <;> omega
theorem foll_len (room : Int) : ∀ (P : List Dpiece) (v : Int), (foll room v P).length = P.length
 | [], _ => rfl
 | p :: P, v => by simp [foll, foll_len room P]
theorem foll_rng {room : Int} (h : 0 ≤ room) : ∀ (P : List Dpiece) (v : Int), ∀ x ∈ foll room v P, 0 ≤ x.2 ∧ x.2 ≤ room ∧ ∃ p ∈ P, x.1 = p.2.1
 | [], _, x, hx => by cases hx
 | p :: P, v, x, hx => by
  rw [foll] at hx
  rcases List.mem_cons.1 hx with rfl | hx
  ·exact ⟨nx_rng h |>.1, nx_rng h |>.2, p, by simp, rfl⟩
  ·obtain ⟨a, b, q, q1, q2⟩ := foll_rng h P _ x hx
   exact ⟨a, b, q, by simp [q1], q2⟩
theorem foll_ord {room t : Int} (h : 0 ≤ room) : ∀ (P : List Dpiece) (v : Int), POk t P → (foll room v P).Pairwise fun a b => a.1 < b.1
 | [], _, _ => List.Pairwise.nil
 | p :: P, v, hP => by
  obtain ⟨e, o⟩ := hP
  rw [List.pairwise_cons] at o
  rw [foll, List.pairwise_cons]
  refine ⟨fun x hx => ?_, foll_ord h P _ ⟨fun q hq => e q (by simp [hq]), o.2⟩⟩
  obtain ⟨_, _, q, q1, q2⟩ := foll_rng h P _ x hx
  have a := o.1 q q1
  have b := e q (by simp [q1])
  simp only; omega
theorem behind_ev {c : DCell} {t v : Int} {p : Dpiece} (hc : CellOk c) (ht : t ≤ 1000000000000) (hp : 0 ≤ p.1 ∧ p.1 < p.2.1 ∧ p.2.1 ≤ t ∧ -5200000 ≤ p.2.2 ∧ p.2.2 ≤ 5200000) (hv : 0 ≤ v ∧ v ≤ c.1) (k : Nat) :
 power_behind.f k (c.1, (c.2.1, (c.2.2.1, (c.2.2.2.1, c.2.2.2.2)))) v p.2.2 (IntKind.wrap .i64 (p.2.1 - p.1)) = some (nx c.1 v p, ()) := by
 have r := hc.room
 have m := mul_bd (x := p.2.2) (y := p.2.1 - p.1) (A := 5200000) (B := 1000000000000) (by omega) (by omega) (by omega) (by omega)
 rw [power_behind.f_eq, w64 (x := p.2.1 - p.1) (by omega) (by omega), w64 (x := p.2.2 * (p.2.1 - p.1)) (by omega) (by omega), w64 (x := v + p.2.2 * (p.2.1 - p.1)) (by omega) (by omega)]
 rfl
section
variable {c : DCell} {s : List DLevel} {l u : List DUse} {t : Int} {F : List UInt8 → DUse × Bool}
theorem follow_loop (hc : CellOk c) (ht : t ≤ 1000000000000) {P : List Dpiece} (hP : POk t P) (hl : P.length ≤ 1601) : ∀ (d i : Nat) (A : List DLevel) (f v : Int), i + d = P.length → A.length = i → (0 ≤ v ∧ v ≤ c.1) →
 Ev (fun k => power_Follow.c0 k c.1 c.2.1 c.2.2.1 c.2.2.2.1 c.2.2.2.2 (A ++ [(f, v)]) P (P.length : Int) i) ((A ++ [(f, v)]) ++ foll c.1 v (P.drop i), 0, ()) := by
 intro d
 induction d with
 | zero =>
  intro i A f v hi hA hv
  refine Ev.step (fun k => power_Follow.c0_eq _ _ _ _ _ _ _ _ _ _) (Ev.no (by simp; omega) ?_)
  rw [List.drop_of_length_le (by omega), foll, List.append_nil]
  exact Ev.now _
 | succ d ih =>
  intro i A f v hi hA hv
  obtain ⟨p, hp⟩ : ∃ p, P[i]? = some p := ⟨P[i], List.getElem?_eq_getElem (by omega)⟩
  have hpm : p ∈ P := List.mem_of_getElem? hp
  have hgi : P.getD i (Ty.dflt Ypiece) = p := by rw [List.getD_eq_getElem?_getD, hp]; rfl
  have hw1 : IntKind.wrap .i64 ((i : Int) + 1) = ((i + 1 : Nat) : Int) := by rw [w64 (by omega) (by omega)]; omega
  have hlen : (A ++ [(f, v)]).length = A.length + 1 := by simp
  have hwl : IntKind.wrap .i64 (((A ++ [(f, v)]).length : Int) - 1) = (A.length : Int) := by rw [hlen, w64 (by omega) (by omega)]; omega
  have hg : (A ++ [(f, v)]).getD A.length (Ty.dflt YLevel) = (f, v) := by simp [List.getD_eq_getElem?_getD]
  refine Ev.step (fun k => power_Follow.c0_eq _ _ _ _ _ _ _ _ _ _) (Ev.yes (by simp; omega) (Ev.yes (by omega) (Ev.yes (by rw [hwl, hlen]; omega) ?_)))
  rw [Int.toNat_natCast, hgi, hw1, hwl, Int.toNat_natCast, hg]
  simp only [behind_ev hc ht (hP.each p hpm) hv, Option.bind_some]
  refine Ev.yes (by rw [hlen]; omega) ?_
  have := ih (i + 1) (A ++ [(f, v)]) p.2.1 (nx c.1 v p) (by omega) (by rw [hlen]; omega) (nx_rng (by have := hc.room; omega))
  have hd : P.drop i = p :: P.drop (i + 1) := by
   obtain ⟨h1, h2⟩ := List.getElem?_eq_some_iff.1 hp
   rw [List.drop_eq_getElem_cons h1, h2]
  rw [hd, foll]
  exact Ev.cast (by simp) this
theorem pfollow_ev (h : InOk c s l u t F) {P : List Dpiece} (hf : Ev (fun k => power_flow.f k c s l u t) (P, ())) (hP : POk t P) (hl : P.length ≤ 1601) {f : Int} (hc : Ev (fun k => power_check.f k c s l u t) (f, ())) (h0 : f = 0) :
 Ev (fun k => power_Follow.f k c s l u t) ((0, c.2.1) :: foll c.1 c.2.1 P, 0, ()) := by
 refine Ev.eq (fun k => power_Follow.f_eq _ _ _ _ _ _) (Ev.bind hc (Ev.no (by simpa using h0) (Ev.bind hf ?_)))
 have := follow_loop h.cell h.til.2 hP hl P.length 0 [] 0 c.2.1 (by omega) rfl h.cell.level
 rw [List.drop_zero] at this
 exact this
theorem empty_loop (hc : CellOk c) (ht : t ≤ 1000000000000) {P : List Dpiece} (hP : POk t P) (hl : P.length ≤ 1601) : ∀ (d i : Nat) (v : Int), i + d = P.length → (0 ≤ v ∧ v ≤ c.1) → c.2.2.2.2 ≤ v →
 ∃ r : Int, Ev (fun k => power_empty.c0 k c.1 c.2.1 c.2.2.1 c.2.2.2.1 c.2.2.2.2 v P (P.length : Int) i) (r, ()) ∧ (0 ≤ r ↔ ∃ x ∈ foll c.1 v (P.drop i), x.2 < c.2.2.2.2) := by
 intro d
 induction d with
 | zero =>
  intro i v hi hv hfl
  refine ⟨-1, Ev.step (fun k => power_empty.c0_eq _ _ _ _ _ _ _ _ _ _) (Ev.no (by simp; omega) (Ev.now _)), ?_⟩
  rw [List.drop_of_length_le (by omega), foll]
  simp
 | succ d ih =>
  intro i v hi hv hfl
  obtain ⟨p, hp⟩ : ∃ p, P[i]? = some p := ⟨P[i], List.getElem?_eq_getElem (by omega)⟩
  have hpm : p ∈ P := List.mem_of_getElem? hp
  have hpe := hP.each p hpm
  have hgi : P.getD i (Ty.dflt Ypiece) = p := by rw [List.getD_eq_getElem?_getD, hp]; rfl
  have hw1 : IntKind.wrap .i64 ((i : Int) + 1) = ((i + 1 : Nat) : Int) := by rw [w64 (by omega) (by omega)]; omega
  have hd : P.drop i = p :: P.drop (i + 1) := by
   obtain ⟨h1, h2⟩ := List.getElem?_eq_some_iff.1 hp
   rw [List.drop_eq_getElem_cons h1, h2]
  have hfloor := hc.floor
  have hroom := hc.room
  have hn := nx_rng (v := v) (p := p) (show 0 ≤ c.1 by omega)
  by_cases hb : nx c.1 v p < c.2.2.2.2
  · -- it falls
   have hneg : p.2.2 < 0 := by
    apply Classical.byContradiction
    intro hge
    have hm : 0 ≤ p.2.2 * (p.2.1 - p.1) := Int.mul_nonneg (by omega) (by omega)
    unfold nx mnI mxI at hb
    split at hb <;> (split at hb) <;> omega
   have hwa : IntKind.wrap .i64 (v - c.2.2.2.2) = v - c.2.2.2.2 := w64 (by omega) (by omega)
   have hwb : IntKind.wrap .i64 (0 - p.2.2) = -p.2.2 := by rw [w64 (by omega) (by omega)]; omega
   have q0 : 0 ≤ Int.tdiv (v - c.2.2.2.2) (-p.2.2) := Int.tdiv_nonneg (by omega) (by omega)
   have q1 : Int.tdiv (v - c.2.2.2.2) (-p.2.2) ≤ v - c.2.2.2.2 := Int.tdiv_le_self _ (by omega)
   have m0 : ¬ Int.tmod (v - c.2.2.2.2) (-p.2.2) < 0 := by have := Int.tmod_nonneg (-p.2.2) (show 0 ≤ v - c.2.2.2.2 by omega); omega
   refine ⟨p.1 + Int.tdiv (v - c.2.2.2.2) (-p.2.2) + 1, Ev.step (fun k => power_empty.c0_eq _ _ _ _ _ _ _ _ _ _) (Ev.yes (by simp; omega) (Ev.yes (by omega) ?_)), ?_⟩
   ·rw [Int.toNat_natCast, hgi, hwa, hwb]
    simp only [behind_ev hc ht hpe hv, Option.bind_some]
    refine Ev.yes (by simpa using hb) ?_
    have hdn : ∀ k, kit_Down.f k (v - c.2.2.2.2) (-p.2.2) = some (Int.tdiv (v - c.2.2.2.2) (-p.2.2), ()) := fun k => by
     rw [kit_Down.f_eq, if_pos (by omega), if_pos (by omega), if_neg (by simpa using m0), w64 (by omega) (by omega)]
    simp only [hdn, Option.bind_some]
    rw [w64 (x := p.1 + Int.tdiv (v - c.2.2.2.2) (-p.2.2)) (by omega) (by omega), w64 (by omega) (by omega)]
    exact Ev.now _
   ·rw [hd, foll]
    exact ⟨fun _ => ⟨_, List.mem_cons_self .., hb⟩, fun _ => by omega⟩
  ·obtain ⟨r, r1, r2⟩ := ih (i + 1) (nx c.1 v p) (by omega) hn (by omega)
   refine ⟨r, Ev.step (fun k => power_empty.c0_eq _ _ _ _ _ _ _ _ _ _) (Ev.yes (by simp; omega) (Ev.yes (by omega) ?_)), ?_⟩
   ·rw [Int.toNat_natCast, hgi, hw1]
    simp only [behind_ev hc ht hpe hv, Option.bind_some]
    exact Ev.no (by simpa using hb) r1
   ·rw [r2, hd, foll]
    constructor
    ·rintro ⟨x, x1, x2⟩; exact ⟨x, List.mem_cons_of_mem _ x1, x2⟩
    ·rintro ⟨x, x1, x2⟩
     rcases List.mem_cons.1 x1 with rfl | x1
     ·exact absurd x2 hb
     ·exact ⟨x, x1, x2⟩
theorem pempty_ev (h : InOk c s l u t F) {P : List Dpiece} (hf : Ev (fun k => power_flow.f k c s l u t) (P, ())) (hP : POk t P) (hl : P.length ≤ 1601) {f : Int} (hc : Ev (fun k => power_check.f k c s l u t) (f, ())) (h0 : f = 0) :
 ∃ n : Int, ∃ b : Bool, Ev (fun k => power_Empty.f k c s l u t) (n, b, 0, ()) ∧ (b = true ↔ ∃ x ∈ (0, c.2.1) :: foll c.1 c.2.1 P, x.2 < c.2.2.2.2) := by
 have ex : ∃ r : Int, Ev (fun k => power_empty.f k c s l u t) (r, ()) ∧ (0 ≤ r ↔ ∃ x ∈ (0, c.2.1) :: foll c.1 c.2.1 P, x.2 < c.2.2.2.2) := by
  by_cases hb : c.2.1 < c.2.2.2.2
  ·exact ⟨0, Ev.eq (fun k => power_empty.f_eq _ _ _ _ _ _) (Ev.yes (by simpa using hb) (Ev.now _)), fun _ => ⟨_, List.mem_cons_self .., hb⟩, fun _ => Int.le_refl _⟩
  ·obtain ⟨r, r1, r2⟩ := empty_loop h.cell h.til.2 hP hl P.length 0 c.2.1 (by omega) h.cell.level (by omega)
   rw [List.drop_zero] at r2
   refine ⟨r, Ev.eq (fun k => power_empty.f_eq _ _ _ _ _ _) (Ev.no (by simpa using hb) (Ev.bind hf r1)), r2.trans ?_⟩
   constructor
   ·rintro ⟨x, x1, x2⟩; exact ⟨x, List.mem_cons_of_mem _ x1, x2⟩
   ·rintro ⟨x, x1, x2⟩
    rcases List.mem_cons.1 x1 with rfl | x1
    ·exact absurd x2 hb
    ·exact ⟨x, x1, x2⟩
 obtain ⟨r, r1, r2⟩ := ex
 exact ⟨mxI r 0, decide (0 ≤ r), Ev.eq (fun k => power_Empty.f_eq _ _ _ _ _ _) (Ev.bind hc (Ev.no (by simpa using h0) (Ev.bind r1 (Ev.now _)))), by rw [decide_eq_true_eq]; exact r2⟩
end
def lvl : List UInt8 := [108, 101, 118, 101, 108]
def limL (f : Int) : DLimit := (lvl, (f, (f, (1000000000, (1000000000, (1, (1, 0)))))))
def sam (x : DLevel) : DSample := (x.1, (lvl, x.2))
def alarmN : List UInt8 := [108, 101, 118, 101, 108, 45, 97, 108, 97, 114, 109]
theorem lvl_name : isNm lvl = true := by
 have h1 := (name_ev lvl (by decide)).1
 have h2 : Ev (fun k => monitor_IsName.f k lvl) (true, ()) := ⟨20, fun n hn => by
  obtain ⟨k, rfl⟩ : ∃ k, n = k + 20 := ⟨n - 20, by omega⟩
  have : ∀ k, monitor_IsName.f (k + 20) lvl = some (true, ()) := fun k => by kernel_rfl
  exact this k⟩
 have := h1.unique h2
 simpa using this
theorem limL_ok {f : Int} (h : 0 ≤ f ∧ f ≤ 1000000000) : LimsOk [limL f] := by
 refine ⟨by simp, fun j hj => ?_⟩
 obtain rfl : j = 0 := by simpa using hj
 have ok : LimOk (limL f) := by
  refine ⟨lvl_name, ?_, ?_, ?_, ?_, ?_, ?_, ?_, ?_, ?_, ?_⟩ <;> simp only [limL] <;> omega
 exact ⟨ok, fun h => absurd h (by omega)⟩
theorem st_limL {f v : Int} (h : v ≤ 1000000000) : st (limL f) v = if v < f then 2 else 0 := by
 have e : st (limL f) v = if v < f then (2 : Int) else if 1000000000 < v then 2 else if v < f then 1 else if 1000000000 < v then 1 else 0 := rfl
 rw [e]
 by_cases h1 : v < f
 ·rw [if_pos h1, if_pos h1]
 ·rw [if_neg h1, if_neg (by omega), if_neg h1, if_neg (by omega), if_neg h1]
theorem alarm_iff {f : Int} : ∀ (r pre : List DSample), (∀ y ∈ r, y.2.1 = lvl ∧ y.2.2 ≤ 1000000000) → nowOf (limL f) (vals lvl pre) ≠ 2 → ((∃ e ∈ evP [limL f] pre r, e.2 = alarmN) ↔ ∃ y ∈ r, y.2.2 < f)
 | [], pre, _, _ => by simp [evP]
 | y :: r, pre, h, h0 => by
  obtain ⟨y1, y2⟩ := h y (by simp)
  have hv : vals lvl (pre ++ [y]) = vals lvl pre ++ [y.2.2] := by rw [vals_snoc, if_pos y1]
  have hnow : nowOf (limL f) (vals lvl (pre ++ [y])) = if y.2.2 < f then 2 else 0 := by rw [hv, now_last rfl rfl rfl, st_limL y2]
  have hone : one [limL f] pre y = if nowOf (limL f) (vals lvl (pre ++ [y])) = nowOf (limL f) (vals lvl pre) then [] else [(y.1, (y.2.1 ++ [45]) ++ wordOf (nowOf (limL f) (vals lvl (pre ++ [y]))))] := by
   unfold one
   have : limOf [limL f] y.2.1 = some (limL f) := by
    unfold limOf
    rw [List.find?_cons_of_pos (by rw [y1]; exact decide_eq_true (rfl : lvl = lvl))]
   rw [this]; rfl
  rw [evP]
  by_cases hb : y.2.2 < f
  ·rw [if_pos hb] at hnow
   rw [hnow, if_neg (fun e => h0 e.symm)] at hone
   refine ⟨fun _ => ⟨y, by simp, hb⟩, fun _ => ⟨_, List.mem_append_left _ (by rw [hone]; exact List.mem_singleton.2 rfl), ?_⟩⟩
   simp only [y1]
   rfl
  ·rw [if_neg hb] at hnow
   have ih := alarm_iff (f := f) r (pre ++ [y]) (fun z hz => h z (by simp [hz])) (by rw [hnow]; decide)
   constructor
   ·rintro ⟨e, e1, e2⟩
    rcases List.mem_append.1 e1 with e1 | e1
    ·rw [hone, hnow] at e1
     split at e1
     ·cases e1
     ·simp only [List.mem_singleton] at e1
      subst e1
      simp only [y1] at e2
      exact absurd e2 (by decide)
    ·obtain ⟨z, z1, z2⟩ := ih.1 ⟨e, e1, e2⟩
     exact ⟨z, by simp [z1], z2⟩
   ·rintro ⟨z, z1, z2⟩
    rcases List.mem_cons.1 z1 with rfl | z1
    ·exact absurd z2 hb
    ·obtain ⟨e, e1, e2⟩ := ih.2 ⟨z, z1, z2⟩
     exact ⟨e, List.mem_append_right _ e1, e2⟩
theorem turns_at (k : Nat) : perigeetop_turns.f (k + 80) = some (true, ()) := by kernel_rfl
theorem turns_ev : Ev (fun k => perigeetop_turns.f k) (true, ()) := ⟨80, fun n hn => by
 obtain ⟨k, rfl⟩ : ∃ k, n = k + 80 := ⟨n - 80, by omega⟩
 exact turns_at k⟩
end Go.Proofs.Ytodnfnnfjnnhmaa.Pure

-- YtodnfnnfjnnhmaaPureTopLevelsAreWatched
set_option linter.unusedVariables false
set_option linter.unusedSimpArgs false
namespace Go.Proofs.Ytodnfnnfjnnhmaa.Pure
open Go Go.Proofs.Ytodnfnnfjnnhmaa.A
theorem alarms_loop (e : List DEvent) (he : e.length ≤ 1000000) (b : Bool) : ∀ (d i : Nat) (a : Bool), i + d = e.length → (b = (a || (e.drop i).any fun x => decide (x.2 = alarmN))) → Ev (fun k => perigeetop_TopLevelsAreWatched.c2 k 0 b e a i) (true, ()) := by
 intro d
 induction d with
 | zero =>
  intro i a hi hb
  rw [List.drop_of_length_le (by omega)] at hb
  refine Ev.step (fun k => perigeetop_TopLevelsAreWatched.c2_eq _ _ _ _ _ _) (Ev.no (by simp; omega) (Ev.yes rfl (Ev.yes ?_ (Ev.bind turns_ev (Ev.now _)))))
  rw [hb]; simp
 | succ d ih =>
  intro i a hi hb
  have hw1 : IntKind.wrap .i64 ((i : Int) + 1) = ((i + 1 : Nat) : Int) := by rw [w64 (by omega) (by omega)]; omega
  rw [List.drop_eq_getElem_cons (show i < e.length by omega), List.any_cons] at hb
  refine Ev.step (fun k => perigeetop_TopLevelsAreWatched.c2_eq _ _ _ _ _ _) (Ev.yes (by simp; omega) ?_)
  rw [hw1]
  cases a with
  | true => exact Ev.yes rfl (ih (i + 1) true (by omega) (by rw [hb]; simp))
  | false =>
   refine Ev.no (by simp) (Ev.yes (by omega) ?_)
   rw [Int.toNat_natCast, getD_nat _ _ i (by omega)]
   exact ih (i + 1) _ (by omega) (by rw [hb, Bool.false_or]; rfl)
theorem sams_ok {X : List DLevel} (h1 : ∀ x ∈ X, 0 ≤ x.1 ∧ x.1 ≤ 1000000000000 ∧ 0 ≤ x.2 ∧ x.2 ≤ 1000000000) (h2 : X.Pairwise fun a b => a.1 < b.1) (h3 : X.length ≤ 5000) : SamsOk (X.map sam) := by
 refine ⟨by rw [List.length_map]; exact h3, fun y hy => ?_, ?_⟩
 ·obtain ⟨x, hx, rfl⟩ := List.mem_map.1 hy
  have := h1 x hx
  exact ⟨by simp only [sam]; omega, lvl_name, by simp only [sam]; omega⟩
 ·rw [List.pairwise_map]
  exact h2.imp fun h => .inl h
theorem watch_ev (c : DCell) (b : Bool) (X : List DLevel) (hc : 0 ≤ c.2.2.2.2 ∧ c.2.2.2.2 ≤ 1000000000) (h1 : ∀ x ∈ X, 0 ≤ x.1 ∧ x.1 ≤ 1000000000000 ∧ 0 ≤ x.2 ∧ x.2 ≤ 1000000000) (h2 : X.Pairwise fun a b => a.1 < b.1) (h3 : X.length ≤ 5000) (hb : b = true ↔ ∃ x ∈ X, x.2 < c.2.2.2.2) :
 Ev (fun k => perigeetop_TopLevelsAreWatched.c1 k c.1 c.2.1 c.2.2.1 c.2.2.2.1 c.2.2.2.2 X b [] 0) (true, ()) := by
 have hL := limL_ok hc
 have hS := sams_ok h1 h2 h3
 have g := Ev.rng (σ := List DSample) (Ty.dflt YLevel) X (by omega) (g := fun k T i => perigeetop_TopLevelsAreWatched.c1 k c.1 c.2.1 c.2.2.1 c.2.2.2.1 c.2.2.2.2 X b T i) (fun k T i => perigeetop_TopLevelsAreWatched.c1_eq _ _ _ _ _ _ _ _ _ _)
  (fun i T => T = (X.take i).map sam) (fun _ _ _ => (true, ())) (fun T hT => by
   rw [List.take_length] at hT
   subst hT
   obtain ⟨f, f1, f2⟩ := follow_ev [limL c.2.2.2.2] (X.map sam) (fun z hz => by simp at hz; subst hz; show lvl.length ≤ _; decide) (fun z hz => by obtain ⟨x, _, rfl⟩ := List.mem_map.1 hz; show lvl.length ≤ _; decide)
   have hf : f = 0 := f2.2 ⟨hL, hS⟩
   rw [if_pos hf] at f1
   refine Ev.bind f1 ?_
   have hle : (evs [limL c.2.2.2.2] (X.map sam)).length ≤ 1000000 := by
    have := evP_len [limL c.2.2.2.2] (X.map sam) []
    rw [List.length_map] at this
    unfold evs; omega
   refine alarms_loop _ hle b _ 0 false (Nat.zero_add _) ?_
   rw [List.drop_zero, Bool.false_or]
   have key := alarm_iff (f := c.2.2.2.2) (X.map sam) [] (fun y hy => by obtain ⟨x, hx, rfl⟩ := List.mem_map.1 hy; exact ⟨rfl, (h1 x hx).2.2.2⟩) (by show (0 : Int) ≠ 2; decide)
   have hh : (b = true) ↔ ((evs [limL c.2.2.2.2] (X.map sam)).any fun x => decide (x.2 = alarmN)) = true := by
    rw [hb, List.any_eq_true]
    constructor
    ·rintro ⟨x, x1, x2⟩
     obtain ⟨e, e1, e2⟩ := key.2 ⟨sam x, List.mem_map.2 ⟨x, x1, rfl⟩, x2⟩
     exact ⟨e, e1, by simpa using e2⟩
    ·rintro ⟨e, e1, e2⟩
     obtain ⟨y, y1, y2⟩ := key.1 ⟨e, e1, by simpa using e2⟩
     obtain ⟨x, x1, rfl⟩ := List.mem_map.1 y1
     exact ⟨x, x1, y2⟩
   exact Bool.eq_iff_iff.2 hh) (fun i x xs T hi hx hd hget hw hT next => by
   simp only [Int.toNat_natCast, hget, hw]
   have hx? : X[i]? = some x := by
    have := congrArg (fun l => l[0]?) hd
    simpa using this
   have tl : T.length = i := by rw [hT, List.length_map, List.length_take]; omega
   refine Ev.yes (by omega) (Ev.yes (by omega) (next _ ?_))
   rw [take_snoc hx?, List.map_append, hT]; rfl) 0 [] (by omega) (by rw [List.take_zero]; rfl)
 exact g
theorem TopLevelsAreWatched (c : DCell) (s : List DLevel) (l u : List DUse) (t : Int) (h0 : okT YCell c) (h1 : okT (.sl YLevel) s) (h2 : okT (.sl YUse) l) (h3 : okT (.sl YUse) u) (h4 : okT (.int .i64) t) : ∃ n, perigeetop_TopLevelsAreWatched.f n c s l u t = some (true, ()) := by
 refine Ev.rounds (g := fun k => perigeetop_TopLevelsAreWatched.f k c s l u t) ?_
 have hn : ∀ z ∈ l, z.1.length ≤ 140737488351232 := fun z hz => (h2.2.2 z hz).1
 obtain ⟨f, f1, f2⟩ := check_ev c s l u t hn
 refine Ev.eq (fun k => perigeetop_TopLevelsAreWatched.f_eq _ _ _ _ _ _) ?_
 by_cases hf : f = 0
 case neg =>
  have a : Ev (fun k => power_Follow.f k c s l u t) ([], f, ()) := Ev.eq (fun k => power_Follow.f_eq _ _ _ _ _ _) (Ev.bind f1 (Ev.yes (by simpa using hf) (Ev.now _)))
  have b : Ev (fun k => power_Empty.f k c s l u t) (0, false, f, ()) := Ev.eq (fun k => power_Empty.f_eq _ _ _ _ _ _) (Ev.bind f1 (Ev.yes (by simpa using hf) (Ev.now _)))
  exact Ev.bind a (Ev.bind b (Ev.yes (by simpa using hf) (Ev.no (by simpa using hf) (Ev.yes rfl (Ev.bind turns_ev (Ev.now _))))))
 obtain ⟨F, hI⟩ := f2 hf
 obtain ⟨P, p1, p2, p3⟩ := flow_ev hI
 have a := pfollow_ev hI p1 p2 p3 f1 hf
 obtain ⟨n, b, b1, b2⟩ := pempty_ev hI p1 p2 p3 f1 hf
 refine Ev.bind a (Ev.bind b1 (Ev.no (by simp) (Ev.no (by simp) ?_)))
 simp only [decide_eq_true_eq]
 refine Ev.split (fun _ => Ev.yes trivial (Ev.bind turns_ev (Ev.now _))) (fun hr => ?_)
 have hcell := hI.cell
 have hroom := hcell.room
 have hlev := hcell.level
 have hfl := hcell.floor
 have htil := hI.til
 refine Ev.step (fun k => perigeetop_TopLevelsAreWatched.c0_eq _ _ _ _ _ _ _ _) (watch_ev c b ((0, c.2.1) :: foll c.1 c.2.1 P) (by omega) (fun x hx => ?_) ?_ (by rw [List.length_cons, foll_len]; omega) b2)
 ·rcases List.mem_cons.1 hx with rfl | hx
  ·simp only; omega
  ·obtain ⟨x1, x2, p, q1, q2⟩ := foll_rng (by omega) P _ x hx
   have := p2.each p q1
   omega
 ·rw [List.pairwise_cons]
  refine ⟨fun x hx => ?_, foll_ord (by omega) P _ p2⟩
  obtain ⟨x1, x2, p, q1, q2⟩ := foll_rng (room := c.1) (by omega) P _ x hx
  have := p2.each p q1
  simp only; omega
end Go.Proofs.Ytodnfnnfjnnhmaa.Pure
