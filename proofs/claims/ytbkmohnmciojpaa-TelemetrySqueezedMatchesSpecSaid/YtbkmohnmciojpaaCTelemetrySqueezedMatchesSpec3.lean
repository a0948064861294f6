/- TelemetrySqueezedMatchesSpec returns true for every input: Squeezed and Spread answer as the reference's, with all errors; no condition. -/
import Derived.Below
import Derived.Carry
import Derived.ChangeArms
import Derived.ChangeOld
import Derived.ChangeSlices
import Derived.DataElems
import Derived.DataReads
import Derived.OpenShut
import Derived.ProofKit
import Derived.ShutString
import Derived.SizedLaws
import Derived.Test.YtbkmohnmciojpaaRows
import Derived.Test.YtbkmohnmciojpaaWMore
import Derived.WalkKit
import Derived.Test.YtbkmohnmciojpaaCTelemetrySqueezedMatchesSpec2
-- YtbkmohnmciojpaaQ2
set_option linter.unusedVariables false
set_option linter.unusedSimpArgs false
namespace Go.Proofs.Ytbkmohnmciojpaa.Pure
open Go.RowKit Go.Proofs.Ytbkmohnmciojpaa.P Go.Proofs.YtbkmohnmciojpaaW.PrintWords Go.Proofs.YtbkmohnmciojpaaW.PrintLast Go.Proofs.YtbkmohnmciojpaaW.PrintMore

def Byt (l : List Int) : Prop := ∀ x ∈ l, 0 ≤ x ∧ x ≤ 255

theorem byt_drop {l : List Int} (h : Byt l) (n : Nat) : Byt (l.drop n) := fun x hx => h x (List.mem_of_mem_drop hx)
theorem byt_take {l : List Int} (h : Byt l) (n : Nat) : Byt (l.take n) := fun x hx => h x (List.mem_of_mem_take hx)

theorem nums_inj : ∀ {a b : List Int}, Byt a → Byt b → (a.map fun n => UInt8.ofNat n.toNat) = (b.map fun n => UInt8.ofNat n.toNat) → a = b := by
  intro a
  induction a with
  | nil => intro b _ _ h; cases b with
    | nil => rfl
    | cons _ _ => simp at h
  | cons x a ih =>
    intro b ha hb h
    cases b with
    | nil => simp at h
    | cons y b =>
      simp only [List.map_cons, List.cons.injEq] at h
      have hx := ha x (by simp)
      have hy := hb y (by simp)
      have e : x = y := by
        have := congrArg UInt8.toNat h.1
        simp only [UInt8.toNat_ofNat'] at this
        omega
      rw [e, ih (fun z hz => ha z (by simp [hz])) (fun z hz => hb z (by simp [hz])) h.2]

theorem bytes_eq {a b : List Int} (ha : Byt a) (hb : Byt b) : bytes_Equal.f a b = some (decide (a = b)) := by
  unfold bytes_Equal.f
  rw [Lib.toList_data, Lib.toList_data, strOfNums_data, strOfNums_data]
  congr 1
  by_cases h : a = b
  · subst h; simp
  · rw [decide_eq_false h, beq_eq_false_iff_ne]
    exact fun e => h (nums_inj ha hb e)

theorem has_true (r : List Int) (h : Byt r) : bytes_HasPrefix.f (128 :: 0 :: r) [128, 0] = some true := by
  unfold bytes_HasPrefix.f
  have e : bytes_Equal.f [128, 0] [128, 0] = some true := by
    rw [bytes_eq (by simp [Byt]) (by simp [Byt])]; simp
  simp only [List.length_cons, List.length_nil]
  rw [if_pos (by omega), if_pos (by omega), if_pos (by omega)]
  simp only [show ((((0 + 1 + 1 : Nat)) : Int) : Int).toNat = 2 from rfl, List.take_succ_cons, List.take_zero, e]
  rfl
theorem has_some {x : List Int} (h : Byt x) : ∃ t, bytes_HasPrefix.f x [128, 0] = some t ∧ (t = true → 2 ≤ x.length) ∧ ((∀ r, x ≠ 128 :: 0 :: r) → t = false) := by
  unfold bytes_HasPrefix.f
  simp only [List.length_cons, List.length_nil]
  by_cases h2 : 2 ≤ x.length
  · rw [if_pos (by omega), if_pos (by omega), if_pos (by omega), show ((((0 + 1 + 1 : Nat)) : Int) : Int).toNat = 2 from rfl, bytes_eq (byt_take h 2) (by simp [Byt])]
    refine ⟨_, rfl, fun _ => h2, fun hn => ?_⟩
    rw [decide_eq_false_iff_not]
    intro e
    refine hn (x.drop 2) ?_
    have := List.take_append_drop 2 x
    rw [e] at this
    exact this.symm
  · rw [if_neg (by omega)]
    exact ⟨false, rfl, by simp, fun _ => rfl⟩

theorem grp_head {n : Nat} (h : 0 < n) : ∃ x r, grp n = x :: r ∧ x ≠ 0 := by
  by_cases h1 : n < 128
  · exact ⟨n, [], grp_lt h1, by omega⟩
  · exact ⟨_, _, grp_ge h1, by omega⟩
theorem grp_not (n : Nat) (rest : List Int) : ∀ r, grp n ++ rest ≠ 128 :: 0 :: r := by
  intro r h
  by_cases h1 : n < 128
  · rw [grp_lt h1] at h
    simp at h
    omega
  · obtain ⟨x, r', e, hx⟩ := grp_head (n := n / 128) (by omega)
    rw [grp_ge h1, e] at h
    simp at h
    exact hx h.2.1

theorem sq_byte : ∀ (d : Nat) (l : List Int) (a : Int), l.length ≤ d → Byt (sq a l) := by
  intro d
  induction d with
  | zero => intro l a h; obtain rfl := List.eq_nil_of_length_eq_zero (show l.length = 0 by omega); rw [sq_nil]; simp [Byt]
  | succ d ih =>
    intro l a h
    cases l with
    | nil => rw [sq_nil]; simp [Byt]
    | cons v t =>
      by_cases h3 : 3 ≤ lead a (v :: t)
      · rw [sq_row h3]
        intro x hx
        rcases List.mem_cons.1 hx with rfl | hx
        · omega
        rcases List.mem_cons.1 hx with rfl | hx
        · omega
        rcases List.mem_append.1 hx with hx | hx
        · exact grp_byte _ x hx
        · exact ih _ a (by simp at h ⊢; omega) x hx
      · rw [sq_one h3]
        intro x hx
        rcases List.mem_append.1 hx with hx | hx
        · exact grp_byte _ x hx
        · exact ih _ v (by simpa using h) x hx

theorem zig_lt {a v : Int} (ha : Fit a) (hv : Fit v) : zig (v - a) < 128 ^ (4 + 1) := by
  obtain ⟨h1, h2⟩ := ha
  obtain ⟨h3, h4⟩ := hv
  unfold zig
  split <;> omega

theorem sq_len : ∀ (d : Nat) (l : List Int) (a : Int), l.length ≤ d → l.length ≤ 5000 → (∀ v ∈ l, Fit v) → Fit a → (sq a l).length ≤ 5 * l.length := by
  intro d
  induction d with
  | zero => intro l a h _ _ _; obtain rfl := List.eq_nil_of_length_eq_zero (show l.length = 0 by omega); rw [sq_nil]; simp
  | succ d ih =>
    intro l a h h5 hl ha
    cases l with
    | nil => rw [sq_nil]; simp
    | cons v t =>
      have hle := lead_le a (v :: t)
      by_cases h3 : 3 ≤ lead a (v :: t)
      · rw [sq_row h3]
        have g := grp_len 1 (lead a (v :: t)) (by omega)
        have := ih ((v :: t).drop (lead a (v :: t))) a (by simp at h ⊢; omega) (by simp at h5 ⊢; omega) (fun x hx => hl x (List.mem_of_mem_drop hx)) ha
        simp only [List.length_cons, List.length_append, List.length_drop] at this h hle ⊢
        omega
      · rw [sq_one h3]
        have hv := hl v (by simp)
        have g := grp_len 4 _ (zig_lt ha hv)
        have := ih t v (by simpa using h) (by simp at h5; omega) (fun x hx => hl x (by simp [hx])) hv
        simp only [List.length_cons, List.length_append] at this h ⊢
        omega

theorem enc_byte {l : List Int} (h : l.length ≤ 5000) : Byt (enc l) := by
  intro x hx
  unfold enc at hx
  rcases List.mem_cons.1 hx with rfl | hx
  · omega
  rcases List.mem_cons.1 hx with rfl | hx
  · omega
  exact sq_byte _ l 0 (Nat.le_refl _) x hx

/-! ### the telemetry's number -/
theorem num_ev (rest : List Int) : ∀ (d n : Nat) (pre : List Int) (z : Int), n < 128 ^ (d + 1) → pre.length + d ≤ 5 → 0 ≤ z → z < ((128 ^ pre.length : Nat) : Int) →
    Ev (fun k => telemetry_number.l0 k (pre ++ (grp n ++ rest)) z pre.length ((128 ^ pre.length : Nat) : Int)) (z + n * ((128 ^ pre.length : Nat) : Int), pre.length + (grp n).length) := by
  intro d
  induction d with
  | zero =>
    intro n pre z hn hp h0 h1
    have hB : 128 ^ pre.length ≤ 128 ^ 5 := Nat.pow_le_pow_right (by omega) (by omega)
    generalize hBB : 128 ^ pre.length = B at *
    have hnB : (n : Int) * (B : Int) ≤ 127 * B := Int.mul_le_mul_of_nonneg_right (by omega) (by omega)
    have hnB0 : 0 ≤ (n : Int) * (B : Int) := Int.mul_nonneg (by omega) (by omega)
    rw [grp_lt (by omega)]
    refine Ev.step (fun k => by rw [telemetry_number.l0]) ?_
    simp only [List.length_append, List.length_cons, List.length_nil]
    refine Ev.yes (by omega) ?_
    refine Ev.step (fun k => by rw [telemetry_number.j1]) ?_
    rw [decide_eq_true (show (pre.length : Int) < 6 by omega), w64 (x := (pre.length : Int) + 1) (by omega) (by omega), show (pre.length : Int) + 1 - 1 = pre.length by omega, w64 (x := (pre.length : Int)) (by omega) (by omega)]
    simp only [List.length_append, List.length_cons, List.length_nil, List.cons_append, List.nil_append]
    rw [rd_mid _ _ _ _ rfl]
    simp only [if_pos, if_pos (show (0 : Int) ≤ pre.length by omega), if_pos (show (pre.length : Int) < ((pre.length + (rest.length + 1) : Nat) : Int) by omega), if_pos (show (n : Int) < 128 by omega)]
    rw [Int.tmod_eq_emod_of_nonneg (by omega), Int.emod_eq_of_lt (by omega) (by omega), w64 (x := (n : Int)) (by omega) (by omega), w64 (x := (n : Int) * B) (by omega) (by omega), w64 (by omega) (by omega)]
    exact Ev.now _
  | succ d ih =>
    intro n pre z hn hp h0 h1
    by_cases hlt : n < 128
    · have hB : 128 ^ pre.length ≤ 128 ^ 5 := Nat.pow_le_pow_right (by omega) (by omega)
      generalize hBB : 128 ^ pre.length = B at *
      have hnB : (n : Int) * (B : Int) ≤ 127 * B := Int.mul_le_mul_of_nonneg_right (by omega) (by omega)
      have hnB0 : 0 ≤ (n : Int) * (B : Int) := Int.mul_nonneg (by omega) (by omega)
      rw [grp_lt (by omega)]
      refine Ev.step (fun k => by rw [telemetry_number.l0]) ?_
      simp only [List.length_append, List.length_cons, List.length_nil]
      refine Ev.yes (by omega) ?_
      refine Ev.step (fun k => by rw [telemetry_number.j1]) ?_
      rw [decide_eq_true (show (pre.length : Int) < 6 by omega), w64 (x := (pre.length : Int) + 1) (by omega) (by omega), show (pre.length : Int) + 1 - 1 = pre.length by omega, w64 (x := (pre.length : Int)) (by omega) (by omega)]
      simp only [List.length_append, List.length_cons, List.length_nil, List.cons_append, List.nil_append]
      rw [rd_mid _ _ _ _ rfl]
      simp only [if_pos, if_pos (show (0 : Int) ≤ pre.length by omega), if_pos (show (pre.length : Int) < ((pre.length + (rest.length + 1) : Nat) : Int) by omega), if_pos (show (n : Int) < 128 by omega)]
      rw [Int.tmod_eq_emod_of_nonneg (by omega), Int.emod_eq_of_lt (by omega) (by omega), w64 (x := (n : Int)) (by omega) (by omega), w64 (x := (n : Int) * B) (by omega) (by omega), w64 (by omega) (by omega)]
      exact Ev.now _
    · have hB : 128 ^ pre.length ≤ 128 ^ 4 := Nat.pow_le_pow_right (by omega) (by omega)
      have hBS : 128 ^ (pre ++ [((n % 128 + 128 : Nat) : Int)]).length = 128 ^ pre.length * 128 := by simp [Nat.pow_succ]
      have := ih (n / 128) (pre ++ [((n % 128 + 128 : Nat) : Int)]) (z + ((n % 128 : Nat) : Int) * ((128 ^ pre.length : Nat) : Int)) (by rw [Nat.div_lt_iff_lt_mul (by omega)]; rw [Nat.pow_succ] at hn; exact hn) (by simp; omega)
        (Int.add_nonneg h0 (Int.mul_nonneg (by omega) (by omega))) (by
          rw [hBS]
          have : ((n % 128 : Nat) : Int) * ((128 ^ pre.length : Nat) : Int) ≤ 127 * ((128 ^ pre.length : Nat) : Int) := Int.mul_le_mul_of_nonneg_right (by omega) (by omega)
          omega)
      rw [hBS] at this
      generalize hBB : 128 ^ pre.length = B at *
      have hnB : ((n % 128 : Nat) : Int) * (B : Int) ≤ 127 * B := Int.mul_le_mul_of_nonneg_right (by omega) (by omega)
      have hnB0 : 0 ≤ ((n % 128 : Nat) : Int) * (B : Int) := Int.mul_nonneg (by omega) (by omega)
      rw [grp_ge hlt]
      refine Ev.step (fun k => by rw [telemetry_number.l0]) ?_
      simp only [List.length_append, List.length_cons, List.length_nil]
      refine Ev.yes (by omega) ?_
      refine Ev.step (fun k => by rw [telemetry_number.j1]) ?_
      rw [decide_eq_true (show (pre.length : Int) < 6 by omega), w64 (x := (pre.length : Int) + 1) (by omega) (by omega), show (pre.length : Int) + 1 - 1 = pre.length by omega, w64 (x := (pre.length : Int)) (by omega) (by omega)]
      simp only [List.length_append, List.length_cons, List.length_nil, List.cons_append, List.nil_append]
      rw [rd_mid _ _ _ _ rfl]
      simp only [if_pos, if_pos (show (0 : Int) ≤ pre.length by omega), if_pos (show (pre.length : Int) < ((pre.length + ((grp (n / 128)).length + rest.length + 1) : Nat) : Int) by omega), if_neg (show ¬ ((n % 128 + 128 : Nat) : Int) < 128 by omega)]
      rw [Int.tmod_eq_emod_of_nonneg (by omega), show ((n % 128 + 128 : Nat) : Int) % 128 = ((n % 128 : Nat) : Int) by omega, w64 (x := ((n % 128 : Nat) : Int)) (by omega) (by omega), w64 (x := ((n % 128 : Nat) : Int) * B) (by omega) (by omega), w64 (by omega) (by omega), w64 (x := (B : Int) * 128) (by omega) (by omega)]
      simp only [List.length_append, List.length_cons, List.length_nil, List.append_assoc, List.cons_append, List.nil_append] at this
      have e : z + ((n % 128 : Nat) : Int) * (B : Int) + ((n / 128 : Nat) : Int) * ((B * 128 : Nat) : Int) = z + (n : Int) * B := by
        have : (n : Int) = 128 * ((n / 128 : Nat) : Int) + ((n % 128 : Nat) : Int) := by omega
        rw [this]
        grind
      rw [e] at this
      have e2 : ((pre.length + (0 + 1) : Nat) : Int) + ((grp (n / 128)).length : Int) = (pre.length : Int) + (((grp (n / 128)).length + 1 : Nat) : Int) := by omega
      rw [e2] at this
      have e3 : ((B * 128 : Nat) : Int) = (B : Int) * 128 := by omega
      have e4 : ((pre.length + (0 + 1) : Nat) : Int) = (pre.length : Int) + 1 := by omega
      rw [e3, e4] at this
      exact this

theorem number_ev (rest : List Int) (d n : Nat) (hn : n < 128 ^ (d + 1)) (hd : d ≤ 5) : Ev (fun k => telemetry_number.f k (grp n ++ rest)) ((n : Int), ((grp n).length : Int)) := by
  have := num_ev rest d n [] 0 hn (by simpa using hd) (by omega) (by simp)
  simpa [telemetry_number.f] using this

theorem num_total (x0 : List Int) : ∀ (d p : Nat) (z b : Int), p + d = 6 → p ≤ x0.length → ∃ r n : Int, Ev (fun k => telemetry_number.l0 k x0 z p b) (r, n) ∧ 0 ≤ n ∧ n ≤ x0.length := by
  intro d
  induction d with
  | zero =>
    intro p z b hp hx
    refine ⟨0, 0, ?_, by omega, by omega⟩
    refine Ev.step (fun k => by rw [telemetry_number.l0]) ?_
    by_cases h : (p : Int) < x0.length
    · simp only [if_pos h]
      refine Ev.step (fun k => by rw [telemetry_number.j1]) ?_
      rw [decide_eq_false (by omega)]
      exact Ev.now _
    · simp only [if_neg h]
      refine Ev.step (fun k => by rw [telemetry_number.j1]) ?_
      exact Ev.now _
  | succ d ih =>
    intro p z b hp hx
    by_cases h : (p : Int) < x0.length
    · by_cases hb : rd x0 p < 128
      · refine ⟨wrap64 (z + (wrap64 ((wrap64 (Int.tmod (rd x0 p) 128)) * b))), (p : Int) + 1, ?_, by omega, by omega⟩
        refine Ev.step (fun k => by rw [telemetry_number.l0]) ?_
        simp only [if_pos h]
        refine Ev.step (fun k => by rw [telemetry_number.j1]) ?_
        rw [decide_eq_true (show (p : Int) < 6 by omega), w64 (x := (p : Int) + 1) (by omega) (by omega), show (p : Int) + 1 - 1 = p by omega, w64 (x := (p : Int)) (by omega) (by omega)]
        simp only [if_pos, if_pos h, if_pos (show (0 : Int) ≤ p by omega), if_pos hb]
        exact Ev.now _
      · obtain ⟨r, n, hr, h0, h1⟩ := ih (p + 1) (wrap64 (z + (wrap64 ((wrap64 (Int.tmod (rd x0 p) 128)) * b)))) (wrap64 (b * 128)) (by omega) (by omega)
        refine ⟨r, n, ?_, h0, h1⟩
        refine Ev.step (fun k => by rw [telemetry_number.l0]) ?_
        simp only [if_pos h]
        refine Ev.step (fun k => by rw [telemetry_number.j1]) ?_
        rw [decide_eq_true (show (p : Int) < 6 by omega), w64 (x := (p : Int) + 1) (by omega) (by omega), show (p : Int) + 1 - 1 = p by omega, w64 (x := (p : Int)) (by omega) (by omega)]
        simp only [if_pos, if_pos h, if_pos (show (0 : Int) ≤ p by omega), if_neg hb]
        exact hr
    · refine ⟨0, 0, ?_, by omega, by omega⟩
      refine Ev.step (fun k => by rw [telemetry_number.l0]) ?_
      simp only [if_neg h]
      refine Ev.step (fun k => by rw [telemetry_number.j1]) ?_
      exact Ev.now _

end Go.Proofs.Ytbkmohnmciojpaa.Pure

-- YtbkmohnmciojpaaQ3
set_option linter.unusedVariables false
set_option linter.unusedSimpArgs false
namespace Go.Proofs.Ytbkmohnmciojpaa.Pure
open Go.RowKit Go.Proofs.Ytbkmohnmciojpaa.P Go.Proofs.YtbkmohnmciojpaaW.PrintWords Go.Proofs.YtbkmohnmciojpaaW.PrintLast Go.Proofs.YtbkmohnmciojpaaW.PrintMore

instance (v : Int) : Decidable (Fit v) := by unfold Fit; infer_instance

theorem in_ev (a : Int) (l h : Int) : kit_In.f a l h = some (decide (l ≤ a ∧ a ≤ h)) := by
  unfold kit_In.f
  by_cases h1 : l ≤ a <;> simp [h1]

theorem fit_in {a : Int} : kit_In.f a (-1000000000) 1000000000 = some (decide (Fit a)) := in_ev a _ _

theorem lead_split (a : Int) : ∀ l, l = List.replicate (lead a l) a ++ l.drop (lead a l) := by
  intro l
  induction l with
  | nil => simp [lead]
  | cons v t ih =>
    simp only [lead]
    split
    · rename_i hv
      subst hv
      rw [List.replicate_succ, List.cons_append, List.drop_succ_cons, ← ih]
    · simp

theorem app_ev (x0 : List Int) (N : Int) (a x72 : Int) (r : List Int × Bool) : ∀ (d : Nat) (out : List Int) (n : Int), n + d = x72 → 0 ≤ n → x72 ≤ 70000 → out.length + d < 1000000 →
    Ev (fun k => telemetry_spread.l1 k x0 N (out ++ List.replicate d a) a x72 x72) r → Ev (fun k => telemetry_spread.l1 k x0 N out a x72 n) r := by
  intro d
  induction d with
  | zero =>
    intro out n hn _ _ _ h
    obtain rfl : n = x72 := by omega
    simpa using h
  | succ d ih =>
    intro out n hn h0 h1 h2 h
    refine Ev.step (fun k => by rw [telemetry_spread.l1]) ?_
    refine Ev.yes (by omega) (Ev.yes (by omega) ?_)
    rw [w64 (by omega) (by omega)]
    refine ih (out ++ [a]) (n + 1) (by omega) (by omega) (by omega) (by simp; omega) ?_
    simpa [List.replicate_succ] using h

theorem spread_ev (N : Nat) (hN : N ≤ 5000) : ∀ (d : Nat) (l out : List Int) (a : Int), l.length ≤ d → out.length + l.length = N → (∀ v ∈ l, Fit v) → Fit a →
    Ev (fun k => telemetry_spread.l0 k (sq a l) N out a) (out ++ l, true) := by
  intro d
  induction d with
  | zero =>
    intro l out a hl ho hf ha
    obtain rfl := List.eq_nil_of_length_eq_zero (show l.length = 0 by omega)
    rw [sq_nil]
    refine Ev.step (fun k => by rw [telemetry_spread.l0]) ?_
    refine Ev.no (by simp) (Ev.yes (by simp at ho; omega) ?_)
    rw [decide_eq_true (by omega), List.append_nil]
    exact Ev.now _
  | succ d ih =>
    intro l out a hl ho hf ha
    cases l with
    | nil =>
      rw [sq_nil]
      refine Ev.step (fun k => by rw [telemetry_spread.l0]) ?_
      refine Ev.no (by simp) (Ev.yes (by simp at ho; omega) ?_)
      rw [decide_eq_true (by omega), List.append_nil]
      exact Ev.now _
    | cons v t =>
      have hle := lead_le a (v :: t)
      have hby := sq_byte _ (v :: t) a (Nat.le_refl _)
      by_cases h3 : 3 ≤ lead a (v :: t)
      · rw [sq_row h3] at hby ⊢
        have hls := lead_split a (v :: t)
        have gl := grp_len 1 (lead a (v :: t)) (by omega)
        have ihh := ih ((v :: t).drop (lead a (v :: t))) (out ++ List.replicate (lead a (v :: t)) a) a (by simp only [List.length_drop]; omega) (by simp only [List.length_drop, List.length_append, List.length_replicate]; omega) (fun x hx => hf x (List.mem_of_mem_drop hx)) ha
        rw [List.append_assoc, ← hls] at ihh
        generalize hm : lead a (v :: t) = m at *
        generalize hr : sq a ((v :: t).drop m) = rest at *
        refine Ev.step (fun k => by rw [telemetry_spread.l0]) ?_
        refine Ev.yes (by simp only [List.length_cons]; omega) ?_
        rw [has_true _ (fun x hx => hby x (by simp [hx]))]
        simp only [Option.bind_some]
        refine Ev.yes (by simp) (Ev.yes (by simp only [List.length_cons]; omega) ?_)
        simp only [List.drop_succ_cons, List.drop_zero]
        refine Ev.step (fun k => by rw [telemetry_spread.j1]) ?_
        refine Ev.bind (number_ev rest 1 m (by omega) (by omega)) ?_
        refine Ev.no (by dsimp only; omega) (Ev.yes (by dsimp only; omega) (Ev.yes (by dsimp only; simp only [List.length_append]; omega) ?_))
        simp only [Option.bind_some]
        refine Ev.yes (by simp) ?_
        rw [show (((grp m).length : Int)).toNat = (grp m).length by omega, List.drop_left, w64 (by omega) (by omega), decide_eq_false (by omega)]
        refine Ev.step (fun k => by rw [telemetry_spread.j2]) ?_
        refine Ev.no (by simp) (Ev.yes (by simp) ?_)
        refine app_ev rest N a m _ m out 0 (by omega) (by omega) (by omega) (by omega) ?_
        refine Ev.step (fun k => by rw [telemetry_spread.l1]) ?_
        refine Ev.no (by omega) (Ev.no (by simp only [List.length_append, List.length_replicate]; omega) ?_)
        rw [fit_in, decide_eq_true ha]
        simp only [Option.bind_some]
        exact Ev.yes (by simp) ihh
      · rw [sq_one h3] at hby ⊢
        have hv := hf v (by simp)
        have ihh := ih t (out ++ [v]) v (by simpa using hl) (by simp at ho ⊢; omega) (fun x hx => hf x (by simp [hx])) hv
        have gl := grp_len 4 (zig (v - a)) (zig_lt ha hv)
        have hz := zig_lt ha hv
        have hnot := grp_not (zig (v - a)) (sq v t)
        have hnum := number_ev (sq v t) 4 (zig (v - a)) hz (by omega)
        generalize hr : sq v t = rest at *
        obtain ⟨b, hb, _, hb2⟩ := has_some hby
        obtain rfl := hb2 hnot
        refine Ev.step (fun k => by rw [telemetry_spread.l0]) ?_
        refine Ev.yes (by simp only [List.length_append]; omega) ?_
        rw [hb]
        simp only [Option.bind_some]
        refine Ev.no (by simp) ?_
        refine Ev.step (fun k => by rw [telemetry_spread.j1]) ?_
        refine Ev.bind hnum ?_
        refine Ev.no (by dsimp only; omega) (Ev.yes (by dsimp only; omega) (Ev.yes (by dsimp only; simp only [List.length_append]; omega) ?_))
        simp only [Option.bind_some]
        refine Ev.no (by simp) ?_
        rw [show (((grp (zig (v - a))).length : Int)).toNat = (grp (zig (v - a))).length by omega, List.drop_left]
        refine Ev.step (fun k => by rw [telemetry_spread.j2]) ?_
        refine Ev.no (by simp) (Ev.no (by simp) ?_)
        obtain ⟨hv0, hv1⟩ := hv
        obtain ⟨ha0, ha1⟩ := ha
        simp only [List.length_append, List.length_cons, List.length_nil] at ho
        by_cases hn : v - a < 0
        · have hzz : (zig (v - a) : Int) = -2 * (v - a) - 1 := by unfold zig; rw [if_pos hn]; omega
          have e1 : Int.tmod (zig (v - a) : Int) 2 = 1 := by rw [Int.tmod_eq_emod_of_nonneg (by omega)]; omega
          have e2 : a - Int.tdiv ((zig (v - a) : Int) + 1) 2 = v := by rw [Int.tdiv_eq_ediv_of_nonneg (by omega)]; omega
          have e3 : 0 ≤ Int.tdiv ((zig (v - a) : Int) + 1) 2 ∧ Int.tdiv ((zig (v - a) : Int) + 1) 2 ≤ 3000000000 := by omega
          refine Ev.yes e1 (Ev.yes (by omega) ?_)
          rw [w64 (x := (zig (v - a) : Int) + 1) (by omega) (by omega), w64 (x := Int.tdiv ((zig (v - a) : Int) + 1) 2) (by omega) (by omega), w64 (x := a - Int.tdiv ((zig (v - a) : Int) + 1) 2) (by omega) (by omega), e2, fit_in, decide_eq_true (show Fit v from ⟨hv0, hv1⟩)]
          simp only [Option.bind_some]
          refine Ev.no (by simp only [List.length_append, List.length_cons, List.length_nil]; omega) (Ev.yes (by simp) ?_)
          simpa using ihh
        · have hzz : (zig (v - a) : Int) = 2 * (v - a) := by unfold zig; rw [if_neg hn]; omega
          have e1 : ¬ Int.tmod (zig (v - a) : Int) 2 = 1 := by rw [Int.tmod_eq_emod_of_nonneg (by omega)]; omega
          have e2 : a + Int.tdiv (zig (v - a) : Int) 2 = v := by rw [Int.tdiv_eq_ediv_of_nonneg (by omega)]; omega
          refine Ev.no e1 (Ev.yes (by omega) ?_)
          rw [w64 (x := Int.tdiv (zig (v - a) : Int) 2) (by omega) (by omega), w64 (x := a + Int.tdiv (zig (v - a) : Int) 2) (by omega) (by omega), e2, fit_in, decide_eq_true (show Fit v from ⟨hv0, hv1⟩)]
          simp only [Option.bind_some]
          refine Ev.no (by simp only [List.length_append, List.length_cons, List.length_nil]; omega) (Ev.yes (by simp) ?_)
          simpa using ihh

/-- What is told of any bytes: an answer, and if it is yes: values in their range. -/
theorem spread_total (N : Int) (hN : N ≤ 65535) : ∀ (d : Nat) (x0 out : List Int) (a : Int), x0.length ≤ d → Byt x0 → out.length ≤ 65535 → (∀ v ∈ out, Fit v) → Fit a → (out.length : Int) ≤ N →
    ∃ l ok, Ev (fun k => telemetry_spread.l0 k x0 N out a) (l, ok) ∧ (ok = true → l.length ≤ 5000 ∧ ∀ v ∈ l, Fit v) := by
  intro d
  induction d with
  | zero =>
    intro x0 out a hx hb ho hf ha hoN
    obtain rfl := List.eq_nil_of_length_eq_zero (show x0.length = 0 by omega)
    by_cases h : (out.length : Int) = N
    · refine ⟨out, decide (N ≤ 5000), ?_, fun h' => ⟨by simp at h'; omega, hf⟩⟩
      refine Ev.step (fun k => by rw [telemetry_spread.l0]) ?_
      exact Ev.no (by simp) (Ev.yes h (Ev.now _))
    · refine ⟨out, false, ?_, by simp⟩
      refine Ev.step (fun k => by rw [telemetry_spread.l0]) ?_
      exact Ev.no (by simp) (Ev.no h (Ev.now _))
  | succ d ih =>
    intro x0 out a hx hb ho hf ha hoN
    by_cases h0 : x0.length = 0
    · obtain rfl := List.eq_nil_of_length_eq_zero h0
      by_cases h : (out.length : Int) = N
      · refine ⟨out, decide (N ≤ 5000), ?_, fun h' => ⟨by simp at h'; omega, hf⟩⟩
        refine Ev.step (fun k => by rw [telemetry_spread.l0]) ?_
        exact Ev.no (by simp) (Ev.yes h (Ev.now _))
      · refine ⟨out, false, ?_, by simp⟩
        refine Ev.step (fun k => by rw [telemetry_spread.l0]) ?_
        exact Ev.no (by simp) (Ev.no h (Ev.now _))
    · obtain ⟨t, ht, ht2, _⟩ := has_some hb
      obtain ⟨y, hy, hyl, hyt⟩ : ∃ y, (if t = true then y = x0.drop 2 else y = x0) ∧ y.length ≤ x0.length ∧ Byt y := by
        cases t with
        | true => exact ⟨_, rfl, by simp, byt_drop hb 2⟩
        | false => exact ⟨_, rfl, Nat.le_refl _, hb⟩
      -- behind the head
      suffices H : ∃ l ok, Ev (fun k => telemetry_spread.j1 k y N out a t) (l, ok) ∧ (ok = true → l.length ≤ 5000 ∧ ∀ v ∈ l, Fit v) by
        obtain ⟨l, ok, he, hl⟩ := H
        refine ⟨l, ok, ?_, hl⟩
        refine Ev.step (fun k => by rw [telemetry_spread.l0]) ?_
        refine Ev.yes (by omega) ?_
        rw [ht]
        simp only [Option.bind_some]
        cases t with
        | true =>
          simp only [if_pos] at hy
          subst hy
          exact Ev.yes (by simp) (Ev.yes (by have := ht2 rfl; omega) he)
        | false =>
          simp at hy
          subst hy
          exact Ev.no (by simp) he
      obtain ⟨z, n, hn, hn0, hn1⟩ := num_total y 6 0 0 1 (by omega) (by omega)
      by_cases hz : n = 0
      · refine ⟨[], false, ?_, by simp⟩
        refine Ev.step (fun k => by rw [telemetry_spread.j1]) ?_
        refine Ev.bind (a := (z, n)) (by simpa [telemetry_number.f] using hn) ?_
        exact Ev.yes hz (Ev.now _)
      have hdl : (y.drop n.toNat).length ≤ d := by simp; omega
      have hdb : Byt (y.drop n.toNat) := byt_drop hyt _
      suffices H : ∀ b : Bool, (b = false → t = true → z ≤ N - out.length) → ∃ l ok, Ev (fun k => telemetry_spread.j2 k (y.drop n.toNat) N out a t z b) (l, ok) ∧ (ok = true → l.length ≤ 5000 ∧ ∀ v ∈ l, Fit v) by
        cases t with
        | true =>
          obtain ⟨l, ok, he, hl⟩ := H (decide (z > (wrap64 (N - (out.length : Int))))) (by rw [w64 (by omega) (by omega)]; intro h _; simpa using h)
          refine ⟨l, ok, ?_, hl⟩
          refine Ev.step (fun k => by rw [telemetry_spread.j1]) ?_
          refine Ev.bind (a := (z, n)) (by simpa [telemetry_number.f] using hn) ?_
          refine Ev.no hz (Ev.yes hn0 (Ev.yes hn1 ?_))
          simp only [Option.bind_some]
          exact Ev.yes (by simp) he
        | false =>
          obtain ⟨l, ok, he, hl⟩ := H false (by simp)
          refine ⟨l, ok, ?_, hl⟩
          refine Ev.step (fun k => by rw [telemetry_spread.j1]) ?_
          refine Ev.bind (a := (z, n)) (by simpa [telemetry_number.f] using hn) ?_
          refine Ev.no hz (Ev.yes hn0 (Ev.yes hn1 ?_))
          simp only [Option.bind_some]
          exact Ev.no (by simp) he
      intro b hbz
      cases b with
      | true =>
        refine ⟨[], false, ?_, by simp⟩
        refine Ev.step (fun k => by rw [telemetry_spread.j2]) ?_
        exact Ev.yes (by simp) (Ev.now _)
      | false =>
        generalize y.drop n.toNat = x1 at *
        cases t with
        | true =>
          have hz1 := hbz rfl rfl
          obtain ⟨m, hm1, hm2⟩ : ∃ m : Nat, m = z.toNat ∧ (m : Int) ≤ 65535 := ⟨z.toNat, rfl, by omega⟩
          have hfo : ∀ v ∈ out ++ List.replicate m a, Fit v := by
            intro v hv
            rcases List.mem_append.1 hv with hv | hv
            · exact hf v hv
            · rw [List.eq_of_mem_replicate hv]; exact ha
          obtain ⟨l, ok, he, hl⟩ := ih x1 (out ++ List.replicate m a) a hdl hdb (by simp; omega) hfo ha (by simp; omega)
          refine ⟨l, ok, ?_, hl⟩
          refine Ev.step (fun k => by rw [telemetry_spread.j2]) ?_
          refine Ev.no (by simp) (Ev.yes (by simp) ?_)
          have last : Ev (fun k => telemetry_spread.l1 k x1 N (out ++ List.replicate m a) a z z) (l, ok) := by
            refine Ev.step (fun k => by rw [telemetry_spread.l1]) ?_
            refine Ev.no (by omega) (Ev.no (by simp; omega) ?_)
            rw [fit_in, decide_eq_true ha]
            simp only [Option.bind_some]
            exact Ev.yes (by simp) he
          by_cases hneg : z < 0
          · obtain rfl : m = 0 := by omega
            refine Ev.step (fun k => by rw [telemetry_spread.l1]) ?_
            refine Ev.no (by omega) (Ev.no (by omega) ?_)
            rw [fit_in, decide_eq_true ha]
            simp only [Option.bind_some]
            refine Ev.yes (by simp) ?_
            simpa using he
          · exact app_ev x1 N a z _ m out 0 (by omega) (by omega) (by omega) (by omega) last
        | false =>
          suffices H : ∀ v : Int, ∃ l ok, Ev (fun k => if ((out ++ [v]).length : Int) > N then some (([] : List Int), false) else ((kit_In.f v (-1000000000) 1000000000).bind fun t => if t = true then telemetry_spread.l0 k x1 N (out ++ [v]) v else some ([], false))) (l, ok) ∧ (ok = true → l.length ≤ 5000 ∧ ∀ v ∈ l, Fit v) by
            by_cases h2 : Int.tmod z 2 = 1
            · obtain ⟨l, ok, he, hl⟩ := H (wrap64 (a - wrap64 (Int.tdiv (wrap64 (z + 1)) 2)))
              refine ⟨l, ok, ?_, hl⟩
              refine Ev.step (fun k => by rw [telemetry_spread.j2]) ?_
              refine Ev.no (by simp) (Ev.no (by simp) (Ev.yes h2 (Ev.yes (by omega) ?_)))
              simp only [Option.bind_some]
              exact he
            · obtain ⟨l, ok, he, hl⟩ := H (wrap64 (a + wrap64 (Int.tdiv z 2)))
              refine ⟨l, ok, ?_, hl⟩
              refine Ev.step (fun k => by rw [telemetry_spread.j2]) ?_
              refine Ev.no (by simp) (Ev.no (by simp) (Ev.no h2 (Ev.yes (by omega) ?_)))
              simp only [Option.bind_some]
              exact he
          intro v
          by_cases hgt : ((out ++ [v]).length : Int) > N
          · exact ⟨[], false, Ev.yes hgt (Ev.now _), by simp⟩
          · by_cases hv : Fit v
            · obtain ⟨l, ok, he, hl⟩ := ih x1 (out ++ [v]) v hdl hdb (by simp at hgt ⊢; omega) (by
                intro x hx
                rcases List.mem_append.1 hx with hx | hx
                · exact hf x hx
                · simp at hx; subst hx; exact hv) hv (by omega)
              refine ⟨l, ok, Ev.no hgt ?_, hl⟩
              rw [fit_in, decide_eq_true hv]
              simp only [Option.bind_some]
              exact Ev.yes (by simp) he
            · refine ⟨[], false, Ev.no hgt ?_, by simp⟩
              rw [fit_in, decide_eq_false hv]
              simp only [Option.bind_some]
              exact Ev.no (by simp) (Ev.now _)

end Go.Proofs.Ytbkmohnmciojpaa.Pure

-- YtbkmohnmciojpaaQ4
set_option linter.unusedVariables false
set_option linter.unusedSimpArgs false
namespace Go.Proofs.Ytbkmohnmciojpaa.Pure
open Go.RowKit Go.Proofs.Ytbkmohnmciojpaa.P Go.Proofs.YtbkmohnmciojpaaW.PrintWords Go.Proofs.YtbkmohnmciojpaaW.PrintLast Go.Proofs.YtbkmohnmciojpaaW.PrintMore

theorem enc_len {l : List Int} (h : l.length ≤ 5000) (hf : ∀ v ∈ l, Fit v) : (enc l).length ≤ 25002 := by
  have := sq_len l.length l 0 (Nat.le_refl _) h hf ⟨by omega, by omega⟩
  unfold enc
  simp only [List.length_cons]
  omega

theorem spread_enc {l : List Int} (h : l.length ≤ 5000) (hf : ∀ v ∈ l, Fit v) : Ev (fun k => telemetry_spread.f k (enc l)) (l, true) := by
  unfold telemetry_spread.f
  have := spread_ev l.length h l.length l [] 0 (Nat.le_refl _) (by simp) hf ⟨by omega, by omega⟩
  have e0 : rd (enc l) 0 = ((l.length / 256 : Nat) : Int) := rfl
  have e1 : rd (enc l) 1 = ((l.length % 256 : Nat) : Int) := rfl
  refine Ev.no (by simp [enc]; omega) (Ev.yes (by simp [enc]; omega) (Ev.yes (by simp [enc]; omega) (Ev.yes (by simp [enc]; omega) ?_)))
  rw [e0, e1, w64 (x := ((l.length / 256 : Nat) : Int)) (by omega) (by omega), w64 (x := ((l.length % 256 : Nat) : Int)) (by omega) (by omega), w64 (x := ((l.length / 256 : Nat) : Int) * 256) (by omega) (by omega), w64 (by omega) (by omega), show ((l.length / 256 : Nat) : Int) * 256 + ((l.length % 256 : Nat) : Int) = (l.length : Int) by omega]
  exact this

theorem spread_any {b : List Int} (hb : Byt b) : ∃ l ok, Ev (fun k => telemetry_spread.f k b) (l, ok) ∧ (ok = true → l.length ≤ 5000 ∧ ∀ v ∈ l, Fit v) := by
  unfold telemetry_spread.f
  by_cases h : (b.length : Int) < 2
  · exact ⟨[], false, Ev.yes h (Ev.now _), by simp⟩
  · have h0 := of_rd hb 0 (by omega) (by omega)
    have h1 := of_rd hb 1 (by omega) (by omega)
    obtain ⟨l, ok, he, hl⟩ := spread_total (rd b 0 * 256 + rd b 1) (by omega) _ (b.drop 2) [] 0 (Nat.le_refl _) (byt_drop hb 2) (by simp) (by simp) ⟨by omega, by omega⟩ (by simp; omega)
    refine ⟨l, ok, Ev.no h (Ev.yes (by omega) (Ev.yes (by omega) (Ev.yes (by omega) ?_))), hl⟩
    rw [w64 (x := rd b 0) (by omega) (by omega), w64 (x := rd b 1) (by omega) (by omega), w64 (x := rd b 0 * 256) (by omega) (by omega), w64 (by omega) (by omega)]
    exact he

/-- Values that can be squeezed. -/
def Good (l : List Int) : Prop := l.length ≤ 5000 ∧ ∀ v ∈ l, Fit v

theorem spread_Enc {l : List Int} (h : Good l) : Ev (fun k => telemetry_Spread.f k (enc l)) (l, 0) := by
  unfold telemetry_Spread.f
  have hl := enc_len h.1 h.2
  refine Ev.no (by omega) (Ev.bind (spread_enc h.1 h.2) (Ev.yes (by simp) (Ev.bind (squeezed_ev l h.1 h.2) ?_)))
  rw [bytes_eq (enc_byte h.1) (enc_byte h.1), decide_eq_true rfl]
  simp only [Option.bind_some]
  exact Ev.yes (by simp) (Ev.now _)

/-- What Spread says of any bytes: values whose bytes these are, or none and an error. -/
theorem spread_Any {b : List Int} (hb : Byt b) : (∃ l, Good l ∧ b = enc l ∧ Ev (fun k => telemetry_Spread.f k b) (l, 0)) ∨ ((∀ l, Good l → b ≠ enc l) ∧ ∃ c, c ≠ 0 ∧ (c = 2 ↔ b.length > 30000) ∧ (c = 2 ∨ c = 3) ∧ Ev (fun k => telemetry_Spread.f k b) ([], c)) := by
  by_cases hg : ∃ l, Good l ∧ b = enc l
  · obtain ⟨l, hl, rfl⟩ := hg
    exact .inl ⟨l, hl, rfl, spread_Enc hl⟩
  · refine .inr ⟨fun l h1 h2 => hg ⟨l, h1, h2⟩, ?_⟩
    by_cases h : (b.length : Int) > 30000
    · refine ⟨2, by omega, by constructor <;> omega, .inl rfl, ?_⟩
      unfold telemetry_Spread.f
      exact Ev.yes h (Ev.now _)
    · refine ⟨3, by omega, by constructor <;> omega, .inr rfl, ?_⟩
      obtain ⟨l, ok, he, hl⟩ := spread_any hb
      unfold telemetry_Spread.f
      refine Ev.no h (Ev.bind he ?_)
      cases ok with
      | false => exact Ev.no (by simp) (Ev.now _)
      | true =>
        have hl := hl rfl
        refine Ev.yes (by simp) (Ev.bind (squeezed_ev l hl.1 hl.2) ?_)
        rw [bytes_eq (enc_byte hl.1) hb, decide_eq_false (fun e => hg ⟨l, hl, e.symm⟩)]
        simp only [Option.bind_some]
        exact Ev.no (by simp) (Ev.now _)

theorem check_ev (x0 : List Int) (hx : x0.length ≤ 5000) : ∀ (d i : Nat), i + d = x0.length → Ev (fun k => telemetry_Squeezed.l0 k x0 x0 x0.length i) (if ∀ v ∈ x0.drop i, Fit v then (if ∀ v ∈ x0, Fit v then (enc x0, 0) else ([], 1)) else ([], 1)) ∨ ¬ ∀ v ∈ x0.take i, Fit v := by
  intro d
  induction d with
  | zero =>
    intro i hi
    by_cases hp : ∀ v ∈ x0, Fit v
    · left
      refine Ev.step (fun k => by rw [telemetry_Squeezed.l0]) ?_
      refine Ev.no (by omega) (Ev.bind (squeezed_ev x0 hx hp) ?_)
      rw [if_pos (fun v hv => hp v (List.mem_of_mem_drop hv)), if_pos hp]
      exact Ev.now _
    · right
      rw [List.take_of_length_le (by omega)]
      exact hp
  | succ d ih =>
    intro i hi
    have hlt : i < x0.length := by omega
    have hg : rd x0 i = x0[i] := by simp [rd, List.getD_eq_getElem?_getD, List.getElem?_eq_getElem hlt]
    by_cases hp : Fit (rd x0 i)
    · rcases ih (i + 1) (by omega) with h | h
      · left
        refine Ev.step (fun k => by rw [telemetry_Squeezed.l0]) ?_
        refine Ev.yes (by omega) (Ev.yes (by omega) (Ev.yes (by omega) ?_))
        rw [fit_in, decide_eq_true hp]
        simp only [Option.bind_some]
        refine Ev.yes (by simp) ?_
        rw [w64 (by omega) (by omega)]
        have e : (∀ v ∈ x0.drop i, Fit v) ↔ ∀ v ∈ x0.drop (i + 1), Fit v := by
          rw [List.drop_eq_getElem_cons hlt]
          constructor
          · intro h v hv; exact h v (List.mem_cons_of_mem _ hv)
          · intro h v hv
            rcases List.mem_cons.1 hv with rfl | hv
            · rw [← hg]; exact hp
            · exact h v hv
        simp only [e]
        exact h
      · right
        intro h'
        refine h fun v hv => ?_
        rw [List.take_succ_eq_append_getElem hlt] at hv
        rcases List.mem_append.1 hv with hv | hv
        · exact h' v hv
        · simp at hv
          subst hv
          rw [← hg]; exact hp
    · left
      refine Ev.step (fun k => by rw [telemetry_Squeezed.l0]) ?_
      refine Ev.yes (by omega) (Ev.yes (by omega) (Ev.yes (by omega) ?_))
      rw [fit_in, decide_eq_false hp]
      simp only [Option.bind_some]
      refine Ev.no (by simp) ?_
      rw [if_neg]
      · exact Ev.now _
      · intro h
        refine hp (h _ ?_)
        rw [hg, List.drop_eq_getElem_cons hlt]
        exact List.mem_cons_self

theorem squeezed_good {x0 : List Int} (h : Good x0) : Ev (fun k => telemetry_Squeezed.f k x0) (enc x0, 0) := by
  unfold telemetry_Squeezed.f
  have := h.1
  refine Ev.no (by omega) ?_
  rcases check_ev x0 h.1 x0.length 0 (by omega) with h1 | h1
  · simp only [List.drop_zero] at h1
    rw [if_pos h.2, if_pos h.2] at h1
    exact h1
  · simp at h1
theorem squeezed_bad {x0 : List Int} (h : ¬ Good x0) : Ev (fun k => telemetry_Squeezed.f k x0) ([], if x0.length > 5000 then 2 else 1) := by
  unfold telemetry_Squeezed.f
  by_cases hl : x0.length > 5000
  · rw [if_pos hl]
    exact Ev.yes (by omega) (Ev.now _)
  · rw [if_neg hl]
    refine Ev.no (by omega) ?_
    have hn : ¬ ∀ v ∈ x0, Fit v := fun hh => h ⟨by omega, hh⟩
    rcases check_ev x0 (by omega) x0.length 0 (by omega) with h1 | h1
    · simp only [List.drop_zero] at h1
      rw [if_neg hn] at h1
      exact h1
    · simp at h1

theorem equalb_ev (x0 x1 : List Int) (hl : x0.length = x1.length) (hm : x0.length ≤ 9223372036854775800) : ∀ (d i : Nat), i + d = x0.length → Ev (fun k => slices_Equal_byte_byte.l0 k x0 x1 x0.length i) (decide (x0.drop i = x1.drop i)) := by
  intro d
  induction d with
  | zero =>
    intro i hi
    refine Ev.step (fun k => by rw [slices_Equal_byte_byte.l0]) ?_
    refine Ev.no (by omega) ?_
    rw [List.drop_of_length_le (by omega), List.drop_of_length_le (by omega), decide_eq_true rfl]
    exact Ev.now _
  | succ d ih =>
    intro i hi
    have h0 : i < x0.length := by omega
    have h1 : i < x1.length := by omega
    have g0 : rd x0 i = x0[i] := by simp [rd, List.getD_eq_getElem?_getD, List.getElem?_eq_getElem h0]
    have g1 : rd x1 i = x1[i] := by simp [rd, List.getD_eq_getElem?_getD, List.getElem?_eq_getElem h1]
    refine Ev.step (fun k => by rw [slices_Equal_byte_byte.l0]) ?_
    refine Ev.yes (by omega) (Ev.yes (by omega) (Ev.yes (by omega) (Ev.yes (by omega) ?_)))
    rw [List.drop_eq_getElem_cons h0, List.drop_eq_getElem_cons h1, g0, g1]
    by_cases he : x0[i] = x1[i]
    · refine Ev.yes he ?_
      rw [w64 (by omega) (by omega), he]
      simp only [List.cons_inj_right]
      exact ih (i + 1) (by omega)
    · refine Ev.no he ?_
      rw [decide_eq_false (fun h => he (List.cons.inj h).1)]
      exact Ev.now _
theorem equal_byte {x0 x1 : List Int} (hm : x0.length ≤ 9223372036854775800) : Ev (fun k => slices_Equal_byte_byte.f k x0 x1) (decide (x0 = x1)) := by
  unfold slices_Equal_byte_byte.f
  by_cases h : x0.length = x1.length
  · exact Ev.yes (by omega) (by simpa using equalb_ev x0 x1 h hm x0.length 0 (by omega))
  · refine Ev.no (by omega) ?_
    rw [decide_eq_false (fun e => h (by rw [e]))]
    exact Ev.now _
theorem equali_ev (x0 x1 : List Int) (hl : x0.length = x1.length) (hm : x0.length ≤ 9223372036854775800) : ∀ (d i : Nat), i + d = x0.length → Ev (fun k => slices_Equal_int_int.l0 k x0 x1 x0.length i) (decide (x0.drop i = x1.drop i)) := by
  intro d
  induction d with
  | zero =>
    intro i hi
    refine Ev.step (fun k => by rw [slices_Equal_int_int.l0]) ?_
    refine Ev.no (by omega) ?_
    rw [List.drop_of_length_le (by omega), List.drop_of_length_le (by omega), decide_eq_true rfl]
    exact Ev.now _
  | succ d ih =>
    intro i hi
    have h0 : i < x0.length := by omega
    have h1 : i < x1.length := by omega
    have g0 : rd x0 i = x0[i] := by simp [rd, List.getD_eq_getElem?_getD, List.getElem?_eq_getElem h0]
    have g1 : rd x1 i = x1[i] := by simp [rd, List.getD_eq_getElem?_getD, List.getElem?_eq_getElem h1]
    refine Ev.step (fun k => by rw [slices_Equal_int_int.l0]) ?_
    refine Ev.yes (by omega) (Ev.yes (by omega) (Ev.yes (by omega) (Ev.yes (by omega) ?_)))
    rw [List.drop_eq_getElem_cons h0, List.drop_eq_getElem_cons h1, g0, g1]
    by_cases he : x0[i] = x1[i]
    · refine Ev.yes he ?_
      rw [w64 (by omega) (by omega), he]
      simp only [List.cons_inj_right]
      exact ih (i + 1) (by omega)
    · refine Ev.no he ?_
      rw [decide_eq_false (fun h => he (List.cons.inj h).1)]
      exact Ev.now _
theorem equal_int {x0 x1 : List Int} (hm : x0.length ≤ 9223372036854775800) : Ev (fun k => slices_Equal_int_int.f k x0 x1) (decide (x0 = x1)) := by
  unfold slices_Equal_int_int.f
  by_cases h : x0.length = x1.length
  · exact Ev.yes (by omega) (by simpa using equali_ev x0 x1 h hm x0.length 0 (by omega))
  · refine Ev.no (by omega) ?_
    rw [decide_eq_false (fun e => h (by rw [e]))]
    exact Ev.now _

theorem awake_ev : Ev (fun k => perigeelaw7_awake.f k) true := by
  have h : perigeelaw7_awake.f 40 = some true := by decide +kernel
  exact Ev.of perigeelaw7_awake.mono h

end Go.Proofs.Ytbkmohnmciojpaa.Pure

-- YtbkmohnmciojpaaQ5
set_option linter.unusedVariables false
set_option linter.unusedSimpArgs false
namespace Go.Proofs.Ytbkmohnmciojpaa.Pure
open Go.RowKit Go.Proofs.Ytbkmohnmciojpaa.P Go.Proofs.YtbkmohnmciojpaaW.PrintWords Go.Proofs.YtbkmohnmciojpaaW.PrintLast Go.Proofs.YtbkmohnmciojpaaW.PrintMore

theorem Ev.unique {α : Type} {g : Nat → Option α} {r s : α} (h : Ev g r) (h' : Ev g s) : r = s := by
  obtain ⟨K, h⟩ := h
  obtain ⟨K', h'⟩ := h'
  have h1 := h (max K K') (by omega)
  have h2 := h' (max K K') (by omega)
  rw [h1] at h2
  injection h2

theorem within_ev (a l h : Int) : perigeeref7_within.f a l h = some (decide (l ≤ a ∧ a ≤ h)) := by
  unfold perigeeref7_within.f
  by_cases h1 : l ≤ a <;> simp [h1]
theorem fit_within {a : Int} : perigeeref7_within.f a (-1000000000) 1000000000 = some (decide (Fit a)) := within_ev a _ _

theorem rgroups_ev : ∀ (d n : Nat) (x : List Int) (z : Int), n < 128 ^ (d + 1) → d ≤ 7 → z = n → x.length + d < 140737488355328 → Ev (fun k => perigeeref7_groups.l0 k z x) (x ++ grp n) := by
  intro d
  induction d with
  | zero =>
    intro n x z h hd hz hx
    refine Ev.step (fun k => by rw [perigeeref7_groups.l0]) ?_
    rw [grp_lt (by omega)]
    refine Ev.no (by omega) (Ev.yes (by omega) ?_)
    rw [show z % 256 = (n : Int) by omega]
    exact Ev.now _
  | succ d ih =>
    intro n x z h hd hz hx
    refine Ev.step (fun k => by rw [perigeeref7_groups.l0]) ?_
    have hb : n < 128 ^ 9 := Nat.lt_of_lt_of_le h (Nat.pow_le_pow_right (by omega) (by omega))
    by_cases h1 : n < 128
    · rw [grp_lt (by omega)]
      refine Ev.no (by omega) (Ev.yes (by omega) ?_)
      rw [show z % 256 = (n : Int) by omega]
      exact Ev.now _
    · refine Ev.yes (by omega) (Ev.yes (by omega) ?_)
      have e1 : Int.tmod z 128 = ((n % 128 : Nat) : Int) := by rw [hz, Int.tmod_eq_emod_of_nonneg (by omega)]; omega
      have e2 : Int.tdiv z 128 = ((n / 128 : Nat) : Int) := by rw [hz, Int.tdiv_eq_ediv_of_nonneg (by omega)]; omega
      rw [e1, e2, w64 (by omega) (by omega), w64 (by omega) (by omega), show (((n % 128 : Nat) : Int) + 128) % 256 = ((n % 128 + 128 : Nat) : Int) by omega, grp_ge h1, List.append_cons x _ (grp (n / 128))]
      exact ih (n / 128) _ _ (by rw [Nat.div_lt_iff_lt_mul (by omega)]; rw [Nat.pow_succ] at h; exact h) (by omega) rfl (by simp only [List.length_append, List.length_cons, List.length_nil]; omega)
theorem rgroups {n : Nat} {z : Int} {d : Nat} (h : n < 128 ^ (d + 1)) (hd : d ≤ 7) (hz : z = n) : Ev (fun k => perigeeref7_groups.f k z) (grp n) := by
  have := rgroups_ev d n [] z h hd hz (by simp; omega)
  simpa [perigeeref7_groups.f] using this

theorem concat3 (a b c : List Int) (h : a.length + b.length + c.length < 1000000) : Ev (fun k => slices_Concat_byte_byte.f k [a, b, c]) (a ++ b ++ c) := by
  unfold slices_Concat_byte_byte.f
  have r0 : rd_L3 [a, b, c] 0 = a := rfl
  have r1 : rd_L3 [a, b, c] 1 = b := rfl
  have r2 : rd_L3 [a, b, c] 2 = c := rfl
  have l3 : ((([a, b, c] : List (List Int)).length : Nat) : Int) = 3 := rfl
  rw [l3]
  refine Ev.step (fun k => by rw [slices_Concat_byte_byte.l0]) ?_
  rw [r0, w64 (x := 0 + (a.length : Int)) (by omega) (by omega), show (0 : Int) + 1 = 1 from rfl, w64 (x := 1) (by omega) (by omega)]
  refine Ev.yes (by omega) (Ev.yes (by omega) (Ev.yes (by omega) (Ev.no (by omega) ?_)))
  refine Ev.step (fun k => by rw [slices_Concat_byte_byte.l0]) ?_
  rw [r1, w64 (x := 0 + (a.length : Int) + (b.length : Int)) (by omega) (by omega), show (1 : Int) + 1 = 2 from rfl, w64 (x := 2) (by omega) (by omega)]
  refine Ev.yes (by omega) (Ev.yes (by omega) (Ev.yes (by omega) (Ev.no (by omega) ?_)))
  refine Ev.step (fun k => by rw [slices_Concat_byte_byte.l0]) ?_
  rw [r2, w64 (x := 0 + (a.length : Int) + (b.length : Int) + (c.length : Int)) (by omega) (by omega), show (2 : Int) + 1 = 3 from rfl, w64 (x := 3) (by omega) (by omega)]
  refine Ev.yes (by omega) (Ev.yes (by omega) (Ev.yes (by omega) (Ev.no (by omega) ?_)))
  refine Ev.step (fun k => by rw [slices_Concat_byte_byte.l0]) ?_
  refine Ev.no (by omega) ?_
  have hg : slices_Grow_byte_byte.f [] (0 + (a.length : Int) + (b.length : Int) + (c.length : Int)) = some [] := by
    unfold slices_Grow_byte_byte.f
    rw [if_neg (by omega), if_neg (by omega)]
  rw [hg]
  simp only [Option.bind_some]
  rw [l3]
  refine Ev.step (fun k => by rw [slices_Concat_byte_byte.l1]) ?_
  rw [r0, show (0 : Int) + 1 = 1 from rfl, w64 (x := 1) (by omega) (by omega), l3]
  refine Ev.yes (by omega) (Ev.yes (by omega) (Ev.yes (by omega) (Ev.yes (by simp; omega) ?_)))
  refine Ev.step (fun k => by rw [slices_Concat_byte_byte.l1]) ?_
  rw [r1, show (1 : Int) + 1 = 2 from rfl, w64 (x := 2) (by omega) (by omega), l3]
  refine Ev.yes (by omega) (Ev.yes (by omega) (Ev.yes (by omega) (Ev.yes (by simp; omega) ?_)))
  refine Ev.step (fun k => by rw [slices_Concat_byte_byte.l1]) ?_
  rw [r2, show (2 : Int) + 1 = 3 from rfl, w64 (x := 3) (by omega) (by omega), l3]
  refine Ev.yes (by omega) (Ev.yes (by omega) (Ev.yes (by omega) (Ev.yes (by simp; omega) ?_)))
  refine Ev.step (fun k => by rw [slices_Concat_byte_byte.l1]) ?_
  refine Ev.no (by omega) ?_
  simpa using Ev.now _

theorem rcount_ev (x0 x3 : List Int) (a : Int) (i : Nat) (r : List Int × Int) (hi : i ≤ x0.length) (hx : x0.length ≤ 5000)
    (h : Ev (fun k => perigeeref7_Squeezed.j3 k x0 x3 a i (lead a (x0.drop i))) r) : ∀ (d n : Nat), n + d = lead a (x0.drop i) → Ev (fun k => perigeeref7_Squeezed.l2 k x0 x3 a i n) r := by
  have hle : lead a (x0.drop i) ≤ x0.length - i := by have := lead_le a (x0.drop i); simpa using this
  intro d
  induction d with
  | zero =>
    intro n hn
    refine Ev.step (fun k => by rw [perigeeref7_Squeezed.l2]) ?_
    obtain rfl : n = lead a (x0.drop i) := by omega
    rw [w64 (by omega) (by omega)]
    by_cases hlt : (i : Int) + (lead a (x0.drop i) : Int) < x0.length
    · have he := lead_end a (x0.drop i) (by simp; omega)
      rw [← rd_drop x0 i _ _ rfl] at he
      exact Ev.yes hlt (Ev.yes (by omega) (Ev.no he h))
    · exact Ev.no hlt h
  | succ d ih =>
    intro n hn
    refine Ev.step (fun k => by rw [perigeeref7_Squeezed.l2]) ?_
    rw [w64 (by omega) (by omega), w64 (by omega) (by omega)]
    have he := lead_at a (x0.drop i) n (by omega)
    rw [← rd_drop x0 i n _ rfl] at he
    exact Ev.yes (by omega) (Ev.yes (by omega) (Ev.yes he (ih (n + 1) (by omega))))

theorem rsq_ev (x0 : List Int) (hx : x0.length ≤ 5000) (hf : ∀ v ∈ x0, Fit v) : ∀ (d i : Nat) (x3 : List Int) (a : Int), x0.length ≤ i + d → i ≤ x0.length → Fit a → x3.length + 20 * d < 900000 →
    Ev (fun k => perigeeref7_Squeezed.l1 k x0 x3 a i) (x3 ++ sq a (x0.drop i), 0) := by
  intro d
  induction d using Nat.strongRecOn with
  | ind d ih =>
    intro i x3 a hd hi ha hx3
    refine Ev.step (fun k => by rw [perigeeref7_Squeezed.l1]) ?_
    by_cases hlt : i < x0.length
    · have hle : lead a (x0.drop i) ≤ x0.length - i := by have := lead_le a (x0.drop i); simpa using this
      refine Ev.yes (by omega) ?_
      refine rcount_ev x0 x3 a i _ hi hx ?_ (lead a (x0.drop i)) 0 (by omega)
      refine Ev.step (fun k => by rw [perigeeref7_Squeezed.j3]) ?_
      by_cases h3 : 3 ≤ lead a (x0.drop i)
      · have gl := grp_len 1 (lead a (x0.drop i)) (by omega)
        refine Ev.yes (by omega) (Ev.bind (rgroups (d := 1) (by omega) (by omega) rfl) (Ev.bind (concat3 _ _ _ (by simp; omega)) ?_))
        rw [w64 (by omega) (by omega), sq_row h3]
        have := ih (d - lead a (x0.drop i)) (by omega) (i + lead a (x0.drop i)) (x3 ++ [128, 0] ++ grp (lead a (x0.drop i))) a (by omega) (by omega) ha (by simp; omega)
        rw [List.drop_drop]
        simpa using this
      · have hv : Fit (rd x0 i) := of_rd hf i (by omega) (by omega)
        have hdr : x0.drop i = rd x0 i :: x0.drop (i + 1) := by
          rw [List.drop_eq_getElem_cons hlt]
          simp [rd, List.getD_eq_getElem?_getD, List.getElem?_eq_getElem hlt]
        refine Ev.no (by omega) (Ev.yes (by omega) (Ev.yes (by omega) ?_))
        rw [hdr, sq_one (by rw [← hdr]; omega)]
        have gl := grp_len 4 _ (zig_lt ha hv)
        have hz := zig_lt ha hv
        obtain ⟨hv0, hv1⟩ := hv
        obtain ⟨ha0, ha1⟩ := ha
        generalize hvv : rd x0 i = v at *
        rw [w64 (x := v - a) (by omega) (by omega), w64 (x := 2 * (v - a)) (by omega) (by omega), w64 (x := (i : Int) + 1) (by omega) (by omega), w64 (x := -(2 * (v - a))) (by omega) (by omega), w64 (by omega) (by omega)]
        have := ih (d - 1) (by omega) (i + 1) (x3 ++ grp (zig (v - a))) v (by omega) (by omega) ⟨hv0, hv1⟩ (by simp; omega)
        by_cases hn : 2 * (v - a) < 0
        · refine Ev.yes hn (Ev.bind (rgroups (n := zig (v - a)) (d := 4) hz (by omega) (by unfold zig; split <;> omega)) (Ev.yes (by omega) ?_))
          simpa using this
        · refine Ev.no hn (Ev.bind (rgroups (n := zig (v - a)) (d := 4) hz (by omega) (by unfold zig; split <;> omega)) (Ev.yes (by omega) ?_))
          simpa using this
    · refine Ev.no (by omega) ?_
      rw [List.drop_of_length_le (by omega), sq_nil, List.append_nil]
      exact Ev.now _

theorem rcheck_ev (x0 : List Int) (hx : x0.length ≤ 5000) : ∀ (d i : Nat), i + d = x0.length → (∀ v ∈ x0.take i, Fit v) → Ev (fun k => perigeeref7_Squeezed.l0 k x0 x0 x0.length i) (if ∀ v ∈ x0, Fit v then (enc x0, 0) else ([], 1)) := by
  intro d
  induction d with
  | zero =>
    intro i hi hp
    rw [List.take_of_length_le (by omega)] at hp
    refine Ev.step (fun k => by rw [perigeeref7_Squeezed.l0]) ?_
    refine Ev.no (by omega) ?_
    rw [show ((x0.length : Int) / 256) % 256 = ((x0.length / 256 : Nat) : Int) by omega, show (x0.length : Int) % 256 = ((x0.length % 256 : Nat) : Int) by omega, if_pos hp]
    have := rsq_ev x0 hx hp x0.length 0 [((x0.length / 256 : Nat) : Int), ((x0.length % 256 : Nat) : Int)] 0 (by omega) (by omega) ⟨by omega, by omega⟩ (by simp; omega)
    simpa [enc] using this
  | succ d ih =>
    intro i hi hp
    have hlt : i < x0.length := by omega
    have hg : rd x0 i = x0[i] := by simp [rd, List.getD_eq_getElem?_getD, List.getElem?_eq_getElem hlt]
    refine Ev.step (fun k => by rw [perigeeref7_Squeezed.l0]) ?_
    refine Ev.yes (by omega) (Ev.yes (by omega) (Ev.yes (by omega) ?_))
    rw [fit_within]
    simp only [Option.bind_some]
    by_cases hv : Fit (rd x0 i)
    · refine Ev.yes (by simpa using hv) ?_
      rw [w64 (by omega) (by omega)]
      refine ih (i + 1) (by omega) ?_
      intro v hm
      rw [List.take_succ_eq_append_getElem hlt] at hm
      rcases List.mem_append.1 hm with hm | hm
      · exact hp v hm
      · simp at hm
        subst hm
        rw [← hg]; exact hv
    · refine Ev.no (by simpa using hv) ?_
      rw [if_neg (fun h => hv (by rw [hg]; exact h _ (List.getElem_mem hlt)))]
      exact Ev.now _
theorem rsqueezed_good {x0 : List Int} (h : Good x0) : Ev (fun k => perigeeref7_Squeezed.f k x0) (enc x0, 0) := by
  unfold perigeeref7_Squeezed.f
  have := h.1
  refine Ev.no (by omega) ?_
  have h1 := rcheck_ev x0 h.1 x0.length 0 (by omega) (by simp)
  rw [if_pos h.2] at h1
  exact h1
theorem rsqueezed_bad {x0 : List Int} (h : ¬ Good x0) : Ev (fun k => perigeeref7_Squeezed.f k x0) ([], if x0.length > 5000 then 2 else 1) := by
  unfold perigeeref7_Squeezed.f
  by_cases hl : x0.length > 5000
  · rw [if_pos hl]
    exact Ev.yes (by omega) (Ev.now _)
  · rw [if_neg hl]
    refine Ev.no (by omega) ?_
    have h1 := rcheck_ev x0 (by omega) x0.length 0 (by omega) (by simp)
    rw [if_neg (fun hh => h ⟨by omega, hh⟩)] at h1
    exact h1

/-! ### the reference's group -/
theorem shl7 (x : Int) (p : Nat) (hp : p ≤ 6) (h0 : 0 ≤ x) (h1 : x ≤ 127) : shl .i64 x (7 * (p : Int)) = x * ((128 ^ p : Nat) : Int) := by
  unfold shl
  have e : min (7 * (p : Int)).toNat (IntKind.bits .i64) = 7 * p := by
    rw [show (IntKind.bits .i64) = 64 from rfl]
    omega
  have e2 : (2 : Int) ^ (7 * p) = ((128 ^ p : Nat) : Int) := by
    rw [Int.pow_mul]
    simp
  rw [e, e2]
  have hB : 128 ^ p ≤ 128 ^ 6 := Nat.pow_le_pow_right (by omega) hp
  generalize 128 ^ p = B at *
  have : x * (B : Int) ≤ 127 * B := Int.mul_le_mul_of_nonneg_right (by omega) (by omega)
  have h2 : 0 ≤ x * (B : Int) := Int.mul_nonneg (by omega) (by omega)
  rw [i64_w]
  exact w64 (by omega) (by omega)

theorem grp_ev (rest : List Int) (x8 : Int) : ∀ (d n : Nat) (pre : List Int) (z : Int), n < 128 ^ (d + 1) → pre.length + d ≤ 5 → 0 ≤ z → z < ((128 ^ pre.length : Nat) : Int) → (pre.length : Int) + (grp n).length ≤ x8 →
    Ev (fun k => perigeeref7_group.l0 k (pre ++ (grp n ++ rest)) z x8 pre.length) (z + n * ((128 ^ pre.length : Nat) : Int), pre.length + (grp n).length) := by
  intro d
  induction d with
  | zero =>
    intro n pre z hn hp h0 h1 h8
    have hB : 128 ^ pre.length ≤ 128 ^ 5 := Nat.pow_le_pow_right (by omega) (by omega)
    have hs := shl7 n pre.length (by omega) (by omega) (by omega)
    generalize hBB : 128 ^ pre.length = B at *
    have hnB : (n : Int) * (B : Int) ≤ 127 * B := Int.mul_le_mul_of_nonneg_right (by omega) (by omega)
    have hnB0 : 0 ≤ (n : Int) * (B : Int) := Int.mul_nonneg (by omega) (by omega)
    rw [grp_lt (by omega)] at h8 ⊢
    simp only [List.length_cons, List.length_nil] at h8
    refine Ev.step (fun k => by rw [perigeeref7_group.l0]) ?_
    simp only [List.cons_append, List.nil_append]
    rw [rd_mid _ _ _ _ rfl, Int.tmod_eq_emod_of_nonneg (by omega), Int.emod_eq_of_lt (by omega) (by omega), w64 (x := (n : Int)) (by omega) (by omega), w64 (x := 7 * (pre.length : Int)) (by omega) (by omega), hs, w64 (x := z + (n : Int) * B) (by omega) (by omega), w64 (x := (pre.length : Int) + 1) (by omega) (by omega)]
    refine Ev.yes (by omega) (Ev.yes (by omega) (Ev.yes (by simp only [List.length_append, List.length_cons]; omega) (Ev.yes (by omega) (Ev.yes (by omega) (Ev.now _)))))
  | succ d ih =>
    intro n pre z hn hp h0 h1 h8
    by_cases hlt : n < 128
    · have hB : 128 ^ pre.length ≤ 128 ^ 5 := Nat.pow_le_pow_right (by omega) (by omega)
      have hs := shl7 n pre.length (by omega) (by omega) (by omega)
      generalize hBB : 128 ^ pre.length = B at *
      have hnB : (n : Int) * (B : Int) ≤ 127 * B := Int.mul_le_mul_of_nonneg_right (by omega) (by omega)
      have hnB0 : 0 ≤ (n : Int) * (B : Int) := Int.mul_nonneg (by omega) (by omega)
      rw [grp_lt (by omega)] at h8 ⊢
      simp only [List.length_cons, List.length_nil] at h8
      refine Ev.step (fun k => by rw [perigeeref7_group.l0]) ?_
      simp only [List.cons_append, List.nil_append]
      rw [rd_mid _ _ _ _ rfl, Int.tmod_eq_emod_of_nonneg (by omega), Int.emod_eq_of_lt (by omega) (by omega), w64 (x := (n : Int)) (by omega) (by omega), w64 (x := 7 * (pre.length : Int)) (by omega) (by omega), hs, w64 (x := z + (n : Int) * B) (by omega) (by omega), w64 (x := (pre.length : Int) + 1) (by omega) (by omega)]
      refine Ev.yes (by omega) (Ev.yes (by omega) (Ev.yes (by simp only [List.length_append, List.length_cons]; omega) (Ev.yes (by omega) (Ev.yes (by omega) (Ev.now _)))))
    · have hB : 128 ^ pre.length ≤ 128 ^ 4 := Nat.pow_le_pow_right (by omega) (by omega)
      have hBS : 128 ^ (pre ++ [((n % 128 + 128 : Nat) : Int)]).length = 128 ^ pre.length * 128 := by simp [Nat.pow_succ]
      rw [grp_ge hlt] at h8 ⊢
      simp only [List.length_cons] at h8
      have := ih (n / 128) (pre ++ [((n % 128 + 128 : Nat) : Int)]) (z + ((n % 128 : Nat) : Int) * ((128 ^ pre.length : Nat) : Int)) (by rw [Nat.div_lt_iff_lt_mul (by omega)]; rw [Nat.pow_succ] at hn; exact hn) (by simp; omega)
        (Int.add_nonneg h0 (Int.mul_nonneg (by omega) (by omega))) (by
          rw [hBS]
          have : ((n % 128 : Nat) : Int) * ((128 ^ pre.length : Nat) : Int) ≤ 127 * ((128 ^ pre.length : Nat) : Int) := Int.mul_le_mul_of_nonneg_right (by omega) (by omega)
          omega) (by simp only [List.length_append, List.length_cons, List.length_nil]; omega)
      rw [hBS] at this
      have hs := shl7 ((n % 128 : Nat) : Int) pre.length (by omega) (by omega) (by omega)
      generalize hBB : 128 ^ pre.length = B at *
      have hnB : ((n % 128 : Nat) : Int) * (B : Int) ≤ 127 * B := Int.mul_le_mul_of_nonneg_right (by omega) (by omega)
      have hnB0 : 0 ≤ ((n % 128 : Nat) : Int) * (B : Int) := Int.mul_nonneg (by omega) (by omega)
      refine Ev.step (fun k => by rw [perigeeref7_group.l0]) ?_
      simp only [List.cons_append, List.nil_append]
      rw [rd_mid _ _ _ _ rfl, Int.tmod_eq_emod_of_nonneg (by omega), show ((n % 128 + 128 : Nat) : Int) % 128 = ((n % 128 : Nat) : Int) by omega, w64 (x := ((n % 128 : Nat) : Int)) (by omega) (by omega), w64 (x := 7 * (pre.length : Int)) (by omega) (by omega), hs, w64 (x := z + ((n % 128 : Nat) : Int) * B) (by omega) (by omega), w64 (x := (pre.length : Int) + 1) (by omega) (by omega)]
      refine Ev.yes (by omega) (Ev.yes (by omega) (Ev.yes (by simp only [List.length_append, List.length_cons]; omega) (Ev.yes (by omega) (Ev.no (by omega) ?_))))
      simp only [List.length_append, List.length_cons, List.length_nil, List.append_assoc, List.cons_append, List.nil_append] at this ⊢
      have e : z + ((n % 128 : Nat) : Int) * (B : Int) + ((n / 128 : Nat) : Int) * ((B * 128 : Nat) : Int) = z + (n : Int) * B := by
        have : (n : Int) = 128 * ((n / 128 : Nat) : Int) + ((n % 128 : Nat) : Int) := by omega
        rw [this]
        grind
      rw [e] at this
      have e2 : ((pre.length + (0 + 1) : Nat) : Int) + ((grp (n / 128)).length : Int) = (pre.length : Int) + (((grp (n / 128)).length + 1 : Nat) : Int) := by omega
      rw [e2] at this
      have e4 : ((pre.length + (0 + 1) : Nat) : Int) = (pre.length : Int) + 1 := by omega
      rw [e4] at this
      exact this

theorem group_ev (rest : List Int) (d n : Nat) (hn : n < 128 ^ (d + 1)) (hd : d ≤ 5) : Ev (fun k => perigeeref7_group.f k (grp n ++ rest)) ((n : Int), ((grp n).length : Int)) := by
  have gl := grp_len d n hn
  have := grp_ev rest (mn (((grp n ++ rest).length : Nat) : Int) 7) d n [] 0 hn (by simpa using hd) (by omega) (by simp) (by unfold mn; simp only [List.length_append, List.length_nil]; split <;> omega)
  simpa [perigeeref7_group.f] using this

theorem group_total (x0 : List Int) (x8 : Int) (h8 : x8 ≤ 7) (h8l : x8 ≤ x0.length) : ∀ (d p : Nat) (z : Int), p + d = 8 → ∃ r n : Int, Ev (fun k => perigeeref7_group.l0 k x0 z x8 p) (r, n) ∧ 0 ≤ n ∧ n ≤ x0.length := by
  intro d
  induction d with
  | zero =>
    intro p z hp
    refine ⟨0, 0, ?_, by omega, by omega⟩
    refine Ev.step (fun k => by rw [perigeeref7_group.l0]) ?_
    exact Ev.no (by omega) (Ev.now _)
  | succ d ih =>
    intro p z hp
    by_cases h : (p : Int) < x8
    · have e1 : wrap64 (7 * (p : Int)) = 7 * p := w64 (by omega) (by omega)
      have e2 : wrap64 ((p : Int) + 1) = (p : Int) + 1 := w64 (by omega) (by omega)
      by_cases hb : rd x0 p < 128
      · refine ⟨wrap64 (z + (shl .i64 (wrap64 (Int.tmod (rd x0 p) 128)) (7 * (p : Int)))), (p : Int) + 1, ?_, by omega, by omega⟩
        refine Ev.step (fun k => by rw [perigeeref7_group.l0]) ?_
        rw [e1, e2]
        exact Ev.yes h (Ev.yes (by omega) (Ev.yes (by omega) (Ev.yes (by omega) (Ev.yes hb (Ev.now _)))))
      · obtain ⟨r, n, hr, h0, h1⟩ := ih (p + 1) (wrap64 (z + (shl .i64 (wrap64 (Int.tmod (rd x0 p) 128)) (7 * (p : Int))))) (by omega)
        refine ⟨r, n, ?_, h0, h1⟩
        refine Ev.step (fun k => by rw [perigeeref7_group.l0]) ?_
        rw [e1, e2]
        exact Ev.yes h (Ev.yes (by omega) (Ev.yes (by omega) (Ev.yes (by omega) (Ev.no hb hr))))
    · refine ⟨0, 0, ?_, by omega, by omega⟩
      refine Ev.step (fun k => by rw [perigeeref7_group.l0]) ?_
      exact Ev.no h (Ev.now _)

end Go.Proofs.Ytbkmohnmciojpaa.Pure

-- YtbkmohnmciojpaaOpens
set_option linter.unusedVariables false
set_option linter.unusedSimpArgs false
namespace Go.Proofs.Ytbkmohnmciojpaa.Open
open Go.RowKit Go.Proofs.YtbkmohnmciojpaaW.PrintWords

/-- Cells that read as data of type t say a value of kind d, about which ok holds. -/
def Opens {α : Type} (P : Program) (d : Kd α) (t : TypeId) (ok : α → Prop) : Prop :=
  ∀ {H : Type} {enc : TypeId × Value → H} {w : World} {fuel : Nat} {cs : List Value} {x : DataW H × List MemPlace},
    DataW.trod enc P w 0 (fun _ => true) true fuel t cs = some x → (∀ n ∈ x.1.weights P t, n ≤ reachBytes) → ∃ y, d.K w y cs ∧ ok y

theorem opens_bool {P : Program} {t : TypeId} (ht : P.underlying t = some .bool) : Opens P Kd.bool t (fun _ => True) := by
  intro H enc w fuel cs x h _
  obtain ⟨b, rfl, _⟩ := DataW.trod_bool ht h
  exact ⟨b, rfl, trivial⟩

theorem opens_int {P : Program} {t : TypeId} {k : IntKind} (ht : P.underlying t = some (.int k)) : Opens P (Kd.int k) t (fun n => (Lit.int k n).wf = true) := by
  intro H enc w fuel cs x h _
  obtain ⟨n, rfl, _, hw⟩ := DataW.trod_int ht h
  exact ⟨n, rfl, hw⟩

theorem opens_i64 {P : Program} {t : TypeId} (ht : P.underlying t = some (.int .i64)) : Opens P (Kd.int .i64) t (fun n => -9223372036854775808 ≤ n ∧ n ≤ 9223372036854775807) := by
  intro H enc w fuel cs x h hx
  obtain ⟨y, hy, hw⟩ := opens_int ht h hx
  refine ⟨y, hy, ?_⟩
  simp [Lit.wf, IntKind.min, IntKind.max, IntKind.bits, IntKind.signed] at hw
  omega

theorem opens_u8 {P : Program} {t : TypeId} (ht : P.underlying t = some (.int .u8)) : Opens P (Kd.int .u8) t (fun n => 0 ≤ n ∧ n ≤ 255) := by
  intro H enc w fuel cs x h hx
  obtain ⟨y, hy, hw⟩ := opens_int ht h hx
  refine ⟨y, hy, ?_⟩
  simp [Lit.wf, IntKind.min, IntKind.max, IntKind.bits, IntKind.signed] at hw
  omega

theorem opens_string {P : Program} {t : TypeId} (ht : P.underlying t = some .string) : Opens P Kd.string t (fun s => s.size ≤ 140737488351232) := by
  intro H enc w fuel cs x h hx
  obtain ⟨s, rfl, rfl, hw⟩ := DataW.trod_string ht h
  refine ⟨s, rfl, ?_⟩
  have := hx s.data.toList.length (by simp [DataW.weights])
  rw [data_length] at this
  simpa [reachBytes] using this

theorem opens_iso {α β : Type} {P : Program} {d : Kd α} {t : TypeId} {ok : α → Prop} (f : β → α) (g : α → β) (hg : ∀ y, f (g y) = y) (h : Opens P d t ok) : Opens P (Kd.iso d f) t (fun x => ok (f x)) := by
  intro H enc w fuel cs x hx hw
  obtain ⟨y, hy, ho⟩ := h hx hw
  exact ⟨g y, by show d.K w (f (g y)) cs; rw [hg]; exact hy, by show ok (f (g y)); rw [hg]; exact ho⟩

theorem opens_imp {α : Type} {P : Program} {d : Kd α} {t : TypeId} {ok ok' : α → Prop} (hi : ∀ x, ok x → ok' x) (h : Opens P d t ok) : Opens P d t ok' := by
  intro H enc w fuel cs x hx hw
  obtain ⟨y, hy, ho⟩ := h hx hw
  exact ⟨y, hy, hi y ho⟩

theorem list_of {α : Type} (p : Nat → α → Prop) : ∀ n : Nat, (∀ i, i < n → ∃ y, p i y) → ∃ l : List α, l.length = n ∧ ∀ i y, l[i]? = some y → p i y := by
  intro n
  induction n with
  | zero => intro _; exact ⟨[], rfl, fun i y h => by simp at h⟩
  | succ n ih =>
    intro h
    obtain ⟨l, hl, hp⟩ := ih (fun i hi => h i (by omega))
    obtain ⟨y, hy⟩ := h n (by omega)
    refine ⟨l ++ [y], by simp [hl], fun i z hz => ?_⟩
    by_cases hi : i < l.length
    · exact hp i z (by rwa [List.getElem?_append_left hi] at hz)
    · rw [List.getElem?_append_right (by omega)] at hz
      have hi2 : i - l.length < 1 := by
        rcases Nat.lt_or_ge (i - l.length) 1 with h | h
        · exact h
        · rw [List.getElem?_eq_none (by simpa using h)] at hz
          cases hz
      have e : i = n := by omega
      subst e
      rw [hl] at hz
      simp at hz
      subst hz
      exact hy

theorem weightsAll_mem {H : Type} {P : Program} {e : TypeId} {d : DataW H} : ∀ {l : List (DataW H)}, d ∈ l → ∀ n ∈ d.weights P e, n ∈ DataW.weightsAll P e l := by
  intro l
  induction l with
  | nil => intro h; cases h
  | cons a l ih =>
    intro h n hn
    rw [DataW.weightsAll, List.mem_append]
    rcases List.mem_cons.1 h with rfl | h
    · exact .inl hn
    · exact .inr (ih h n hn)

theorem opens_slice {α : Type} {P : Program} {d : Kd α} {t e : TypeId} {ok : α → Prop} {B : Nat} (ht : P.underlying t = some (.slice e)) (hc : P.cellsOf e = d.sz) (hB : P.bytesOf e = B) (h : Opens P d e ok) :
    Opens P (Kd.slice e d) t (fun xs => xs.length ≤ 9223372036854775807 ∧ xs.length * B ≤ 140737488351232 ∧ ∀ x ∈ xs, ok x) := by
  intro H enc w fuel cs x hx hw
  rcases DataW.trod_slice ht hx with ⟨rfl, rfl⟩ | ⟨a, len, cap, elems, rest, n, _, rfl, rfl, hb, hl, hm, hlen, hel, hsp, _⟩
  · exact ⟨[], ⟨none, 0, rfl, Nat.le_refl _, Kd.C_nil d w⟩, by simp, by simp, by simp⟩
  · have each : ∀ i, i < len → ∃ y, (∃ c, c.length = d.sz ∧ d.K w y c ∧ ∀ j u, c[j]? = some u → w.cell? (a.add (i * d.sz + j)) = some u) ∧ ok y := by
      intro i hi
      have h1 := hel i hi
      have hi2 : i < elems.length := by omega
      rw [List.getElem?_eq_getElem hi2, Option.bind_eq_some_iff] at h1
      obtain ⟨c, hcs, h2⟩ := h1
      obtain ⟨_, hcl, hcc⟩ := World.cells?_some hcs
      obtain ⟨y, hy, ho⟩ := h h2 (fun m hm => hw m (by
        rw [DataW.weights]
        simp only [ht, List.mem_cons, List.mem_append]
        exact .inr (.inl (weightsAll_mem (List.mem_map_of_mem (f := Prod.fst) (List.getElem_mem hi2)) m hm))))
      refine ⟨y, ⟨c, by rw [hcl, hc], hy, fun j u hu => ?_⟩, ho⟩
      have hj : j < P.cellsOf e := by
        rcases Nat.lt_or_ge j c.length with h | h
        · omega
        · rw [List.getElem?_eq_none h] at hu
          cases hu
      have := hcc j hj
      rw [hu, Go.Addr.add_add, hc] at this
      exact this
    obtain ⟨l, hll, hp⟩ := list_of _ len each
    have hlb : len * B ≤ 140737488351232 := by
      have h1 : ((elems.map (·.1)).length + (rest.map (·.1)).length) * P.bytesOf e ≤ reachBytes := hw _ (by
        rw [DataW.weights]
        simp only [ht]
        exact List.mem_cons_self)
      rw [hB] at h1
      have h2 : len * B ≤ ((elems.map (·.1)).length + (rest.map (·.1)).length) * B := Nat.mul_le_mul_right _ (by simp; omega)
      simpa [reachBytes] using Nat.le_trans h2 h1
    refine ⟨l, ⟨some a, cap, by rw [hll], by omega, ⟨rfl, by simp only [maxLen] at hm; omega, fun _ => ⟨a, rfl, fun j p hj => (hp j p hj).1⟩⟩⟩, by simp only [maxLen] at hm; omega, by rw [hll]; exact hlb, fun x hx => ?_⟩
    obtain ⟨i, hi⟩ := List.getElem?_of_mem hx
    exact (hp i x hi).2

/-- The fields of a struct from one on. -/
def Fields {α : Type} (P : Program) (d : Kd α) (fs : List Field) (off tot : Nat) (ok : α → Prop) : Prop :=
  ∀ {H : Type} {enc : TypeId × Value → H} {w : World} {n : Nat} {cs : List Value} {xs : List (DataW H × List MemPlace)}, cs.length = tot → xs.length = fs.length →
    (∀ (i : Nat) (f : Field), fs[i]? = some f → DataW.trod enc P w 0 (fun _ => true) true n f.type ((cs.drop f.offset).take (P.cellsOf f.type)) = xs[i]?) →
    (∀ m ∈ DataW.weightsEach P (fs.map (·.type)) (xs.map (·.1)), m ≤ reachBytes) → ∃ y, d.K w y (cs.drop off) ∧ ok y

theorem fields_last {α : Type} {P : Program} {d : Kd α} {f : Field} {off tot : Nat} {ok : α → Prop} (h : Opens P d f.type ok) (ho : f.offset = off) (hc : off + P.cellsOf f.type = tot) : Fields P d [f] off tot ok := by
  intro H enc w n cs xs hcs hxs hf hw
  obtain ⟨x, rfl⟩ : ∃ x, xs = [x] := by
    match xs, hxs with
    | [x], _ => exact ⟨x, rfl⟩
  have h1 := hf 0 f rfl
  rw [ho, List.take_of_length_le (by simp; omega)] at h1
  exact h h1 (fun m hm => hw m (by simpa [DataW.weightsEach] using hm))

theorem fields_cons {α β : Type} {P : Program} {a : Kd α} {b : Kd β} {f : Field} {fs : List Field} {off tot : Nat} {okA : α → Prop} {okB : β → Prop} (h : Opens P a f.type okA) (ho : f.offset = off) (hs : Fields P b fs (off + P.cellsOf f.type) tot okB) :
    Fields P (Kd.pair a b) (f :: fs) off tot (fun y => okA y.1 ∧ okB y.2) := by
  intro H enc w n cs xs hcs hxs hf hw
  match xs, hxs with
  | x :: xs, hxs =>
    have h1 := hf 0 f rfl
    rw [ho] at h1
    obtain ⟨y, hy, hoy⟩ := h (x := x) h1 (fun m hm => hw m (by simp [DataW.weightsEach]; exact .inl hm))
    obtain ⟨z, hz, hoz⟩ := hs (xs := xs) hcs (by simpa using hxs) (fun i g hg => by have := hf (i + 1) g (by simpa using hg); simpa using this) (fun m hm => hw m (by
      simp only [List.map_cons, DataW.weightsEach, List.mem_append]
      exact .inr hm))
    exact ⟨(y, z), ⟨_, _, by rw [← List.drop_drop, List.take_append_drop], hy, hz⟩, hoy, hoz⟩

theorem opens_struct {α : Type} {P : Program} {d : Kd α} {t : TypeId} {fs : Array Field} {tot : Nat} {ok : α → Prop} (ht : P.underlying t = some (.struct fs)) (hc : P.cellsOf t = tot) (h : Fields P d fs.toList 0 tot ok) : Opens P d t ok := by
  intro H enc w fuel cs x hx hw
  obtain ⟨xs, n, _, rfl, hcl, hxl, hf⟩ := DataW.trod_struct ht hx
  have := h (enc := enc) (w := w) (n := n) (cs := cs) (xs := xs) (by rw [hcl, hc]) (by simpa using hxl) (fun i f hi => hf i f (by simpa using hi)) (fun m hm => hw m (by
    rw [DataW.weights]
    simp only [ht]
    exact hm))
  simpa using this

/-- A parameter that is a slice. -/
theorem param_slice {α : Type} {H : Type} {enc : TypeId × Value → H} {P : Program} {d : Kd α} {t e : TypeId} {ok : List α → Prop} {w : World} {a : Option Addr} {len cap : Nat} {x : DataW H} {ps : List MemPlace} {ts : List TypeId} {ds : List (DataW H)} {j : Nat}
    (hsz : (DataW.weightsEach P ts ds).all (· ≤ reachBytes) = true) (hj : ts[j]? = some t) (hd : ds[j]? = some x) (h : DataW.Trod enc P w 0 (fun _ => true) true t (.slice a len cap) x ps) (ho : Opens P (Kd.slice e d) t ok) :
    ∃ l, len = l.length ∧ l.length ≤ cap ∧ d.C w a l.length l ∧ ok l := by
  obtain ⟨fuel, hf⟩ := h
  obtain ⟨l, ⟨A, c, he, hl, hC⟩, hok⟩ := ho hf (weights_of hsz hj hd)
  simp [Value.cells] at he
  obtain ⟨rfl, rfl, rfl⟩ := he
  exact ⟨l, rfl, hl, hC, hok⟩
 where
  weights_of {H : Type} {P : Program} {t : TypeId} {x : DataW H} : ∀ {ts : List TypeId} {ds : List (DataW H)} {j : Nat}, (DataW.weightsEach P ts ds).all (· ≤ reachBytes) = true → ts[j]? = some t → ds[j]? = some x → ∀ n ∈ x.weights P t, n ≤ reachBytes := by
    intro ts
    induction ts with
    | nil => intro ds j _ h; simp at h
    | cons a ts ih =>
      intro ds j hw ht hd n hn
      match ds with
      | [] => simp at hd
      | d :: ds =>
        rw [DataW.weightsEach, List.all_append, Bool.and_eq_true] at hw
        cases j with
        | zero =>
          simp at ht hd
          subst ht; subst hd
          simpa using List.all_eq_true.1 hw.1 n hn
        | succ j => exact ih hw.2 (by simpa using ht) (by simpa using hd) n hn

/-- A parameter of any kind: its cells. -/
theorem param_any {α : Type} {H : Type} {enc : TypeId × Value → H} {P : Program} {d : Kd α} {t : TypeId} {ok : α → Prop} {w : World} {v : Value} {x : DataW H} {ps : List MemPlace} {ts : List TypeId} {ds : List (DataW H)} {j : Nat}
    (hsz : (DataW.weightsEach P ts ds).all (· ≤ reachBytes) = true) (hj : ts[j]? = some t) (hd : ds[j]? = some x) (h : DataW.Trod enc P w 0 (fun _ => true) true t v x ps) (ho : Opens P d t ok) :
    ∃ y, d.K w y v.cells.toList ∧ ok y := by
  obtain ⟨fuel, hf⟩ := h
  exact ho hf (param_slice.weights_of hsz hj hd)

def OkI (n : Int) : Prop := -9223372036854775808 ≤ n ∧ n ≤ 9223372036854775807
def OkU8 (n : Int) : Prop := 0 ≤ n ∧ n ≤ 255
def OkB (_ : Bool) : Prop := True
def OkS (s : ByteArray) : Prop := s.size ≤ 140737488351232
def OkL {α : Type} (B : Nat) (ok : α → Prop) (xs : List α) : Prop := xs.length ≤ 9223372036854775807 ∧ xs.length * B ≤ 140737488351232 ∧ ∀ x ∈ xs, ok x

theorem agg_eq {cs : Array Value} {l : List Value} (h : (Value.agg cs).cells.toList = l) : cs = l.toArray := by
  subst h
  simp [Value.cells]

end Go.Proofs.Ytbkmohnmciojpaa.Open

-- YtbkmohnmciojpaaOk
set_option linter.unusedVariables false
namespace Go.Proofs.Ytbkmohnmciojpaa.P
open Go.RowKit Go.Proofs.Ytbkmohnmciojpaa.Open Go.Proofs.Ytbkmohnmciojpaa.P Go.Proofs.YtbkmohnmciojpaaW.PrintWords Go.Proofs.YtbkmohnmciojpaaW.PrintLast Go.Proofs.YtbkmohnmciojpaaW.PrintMore

def ok28 (x : S28) : Prop := OkI x.f0 ∧ OkI x.f1
theorem opens28 : Opens Try.prog k28 28 ok28 := opens_iso _ (fun y => ⟨y.1, y.2⟩) (fun _ => rfl) (opens_struct (tot := 2) Try.underlying28 (by kernel_rfl) (fields_cons (opens_i64 Try.underlying3) (by rfl) (fields_last (opens_i64 Try.underlying3) (by rfl) (by kernel_rfl))))
end Go.Proofs.Ytbkmohnmciojpaa.P

-- YtbkmohnmciojpaaStTelemetrySqueezedMatchesSpec
set_option linter.unusedVariables false
namespace Go.Proofs.Ytbkmohnmciojpaa.P
open Go.RowKit Go.Proofs.Ytbkmohnmciojpaa.Open Go.Proofs.Ytbkmohnmciojpaa.P Go.Proofs.YtbkmohnmciojpaaW.PrintWords Go.Proofs.YtbkmohnmciojpaaW.PrintLast Go.Proofs.YtbkmohnmciojpaaW.PrintMore

/-- THE PURE STATEMENT -/
def perigeelaw7_TelemetrySqueezedMatchesSpec.Law : Prop := ∀ (l0 : List Int) (l1 : List Int), (OkL 8 OkI) l0 → (OkL 1 OkU8) l1 → ∃ k, perigeelaw7_TelemetrySqueezedMatchesSpec.f k l0 l1 = some true
end Go.Proofs.Ytbkmohnmciojpaa.P

-- YtbkmohnmciojpaaPureTelemetrySqueezedMatchesSpec
set_option linter.unusedVariables false
set_option linter.unusedSimpArgs false
namespace Go.Proofs.Ytbkmohnmciojpaa.Pure
open Go.RowKit Go.Proofs.Ytbkmohnmciojpaa.Open Go.Proofs.Ytbkmohnmciojpaa.P Go.Proofs.YtbkmohnmciojpaaW.PrintWords Go.Proofs.YtbkmohnmciojpaaW.PrintLast Go.Proofs.YtbkmohnmciojpaaW.PrintMore

theorem rapp_ev (x0 : List Int) (N : Int) (a x72 : Int) (r : List Int × Bool) : ∀ (d : Nat) (out : List Int) (n : Int), n + d = x72 → 0 ≤ n → x72 ≤ 70000 → out.length + d < 1000000 →
    Ev (fun k => perigeeref7_spread.l1 k x0 N (out ++ List.replicate d a) a x72 x72) r → Ev (fun k => perigeeref7_spread.l1 k x0 N out a x72 n) r := by
  intro d
  induction d with
  | zero =>
    intro out n hn _ _ _ h
    obtain rfl : n = x72 := by omega
    simpa using h
  | succ d ih =>
    intro out n hn h0 h1 h2 h
    refine Ev.step (fun k => by rw [perigeeref7_spread.l1]) ?_
    refine Ev.yes (by omega) (Ev.yes (by omega) ?_)
    rw [w64 (by omega) (by omega)]
    refine ih (out ++ [a]) (n + 1) (by omega) (by omega) (by omega) (by simp; omega) ?_
    simpa [List.replicate_succ] using h

/-- behind the head: the row's mark is found, or is not -/
theorem rhead_ev {x0 : List Int} (hpos : 0 < x0.length) (N : Int) (out : List Int) (a : Int) (r : List Int × Bool) :
    (∀ b, (b = true → (∃ t, x0 = 128 :: 0 :: t) ∧ 2 < x0.length) → ((∃ t, x0 = 128 :: 0 :: t) → 2 < x0.length → b = true) → Ev (fun k => perigeeref7_spread.j1 k x0 N out a b) r) → Ev (fun k => perigeeref7_spread.l0 k x0 N out a) r := by
  intro h
  refine Ev.step (fun k => by rw [perigeeref7_spread.l0]) (Ev.yes (by omega) ?_)
  by_cases h2 : 2 < x0.length
  · refine Ev.yes (by omega) (Ev.yes (by omega) ?_)
    obtain ⟨p, q, t, rfl⟩ : ∃ p q t, x0 = p :: q :: t := by
      match x0, h2 with
      | p :: q :: t, _ => exact ⟨p, q, t, rfl⟩
    have e0 : rd (p :: q :: t) 0 = p := rfl
    have e1 : rd (p :: q :: t) 1 = q := rfl
    rw [e0, e1]
    by_cases hp : p = 128
    · refine Ev.yes hp (Ev.yes (by omega) (h _ ?_ ?_))
      · intro hq
        have : q = 0 := by simpa using hq
        exact ⟨⟨t, by rw [hp, this]⟩, h2⟩
      · rintro ⟨t', ht⟩ _
        simp at ht
        simp [ht.2.1]
    · refine Ev.no hp (h _ (by simp) ?_)
      rintro ⟨t', ht⟩
      simp at ht
      exact absurd ht.1 hp
  · refine Ev.no (by omega) (h _ (by simp) ?_)
    intro _ h3
    exact absurd h3 h2

theorem rspread_ev (N : Nat) (hN : N ≤ 5000) : ∀ (d : Nat) (l out : List Int) (a : Int), l.length ≤ d → out.length + l.length = N → (∀ v ∈ l, Fit v) → Fit a →
    Ev (fun k => perigeeref7_spread.l0 k (sq a l) N out a) (out ++ l, true) := by
  intro d
  induction d with
  | zero =>
    intro l out a hl ho hf ha
    obtain rfl := List.eq_nil_of_length_eq_zero (show l.length = 0 by omega)
    rw [sq_nil]
    refine Ev.step (fun k => by rw [perigeeref7_spread.l0]) ?_
    refine Ev.no (by simp) ?_
    rw [List.append_nil, show ((out.length : Int) == (N : Int)) = true by simp at ho; simp; omega]
    exact Ev.now _
  | succ d ih =>
    intro l out a hl ho hf ha
    cases l with
    | nil =>
      rw [sq_nil]
      refine Ev.step (fun k => by rw [perigeeref7_spread.l0]) ?_
      refine Ev.no (by simp) ?_
      rw [List.append_nil, show ((out.length : Int) == (N : Int)) = true by simp at ho; simp; omega]
      exact Ev.now _
    | cons v t =>
      have hle := lead_le a (v :: t)
      by_cases h3 : 3 ≤ lead a (v :: t)
      · rw [sq_row h3]
        have hls := lead_split a (v :: t)
        have gl := grp_len 1 (lead a (v :: t)) (by omega)
        have ihh := ih ((v :: t).drop (lead a (v :: t))) (out ++ List.replicate (lead a (v :: t)) a) a (by simp only [List.length_drop]; omega) (by simp only [List.length_drop, List.length_append, List.length_replicate]; omega) (fun x hx => hf x (List.mem_of_mem_drop hx)) ha
        rw [List.append_assoc, ← hls] at ihh
        generalize hm : lead a (v :: t) = m at *
        generalize hr : sq a ((v :: t).drop m) = rest at *
        refine rhead_ev (by simp) N out a _ ?_
        intro b _ hb
        obtain rfl := hb ⟨_, rfl⟩ (by simp only [List.length_cons, List.length_append]; omega)
        refine Ev.step (fun k => by rw [perigeeref7_spread.j1]) ?_
        refine Ev.yes rfl (Ev.yes (by simp only [List.length_cons]; omega) ?_)
        simp only [List.drop_succ_cons, List.drop_zero]
        refine Ev.step (fun k => by rw [perigeeref7_spread.j2]) ?_
        refine Ev.bind (group_ev rest 1 m (by omega) (by omega)) ?_
        refine Ev.no (by dsimp only; omega) (Ev.yes rfl ?_)
        dsimp only
        rw [decide_eq_false (by omega)]
        refine Ev.step (fun k => by rw [perigeeref7_spread.j3]) ?_
        refine Ev.no (by simp) (Ev.yes (by omega) (Ev.yes (by simp only [List.length_append]; omega) ?_))
        simp only [Option.bind_some]
        refine Ev.yes (by simp) ?_
        rw [show (((grp m).length : Int)).toNat = (grp m).length by omega, List.drop_left]
        refine Ev.step (fun k => by rw [perigeeref7_spread.j4]) ?_
        refine rapp_ev rest N a m _ m out 0 (by omega) (by omega) (by omega) (by omega) ?_
        refine Ev.step (fun k => by rw [perigeeref7_spread.l1]) ?_
        exact Ev.no (by omega) (Ev.no (by simp only [List.length_append, List.length_replicate]; omega) ihh)
      · rw [sq_one h3]
        have hv := hf v (by simp)
        have ihh := ih t (out ++ [v]) v (by simpa using hl) (by simp at ho ⊢; omega) (fun x hx => hf x (by simp [hx])) hv
        have gl := grp_len 4 (zig (v - a)) (zig_lt ha hv)
        have hz := zig_lt ha hv
        have hnot := grp_not (zig (v - a)) (sq v t)
        have hgrp := group_ev (sq v t) 4 (zig (v - a)) hz (by omega)
        generalize hr : sq v t = rest at *
        refine rhead_ev (by simp only [List.length_append]; omega) N out a _ ?_
        intro b hb _
        cases b with
        | true =>
          obtain ⟨⟨t', ht'⟩, _⟩ := hb rfl
          exact absurd ht' (hnot t')
        | false =>
          refine Ev.step (fun k => by rw [perigeeref7_spread.j1]) ?_
          refine Ev.no (by simp) ?_
          refine Ev.step (fun k => by rw [perigeeref7_spread.j2]) ?_
          refine Ev.bind hgrp ?_
          refine Ev.no (by dsimp only; omega) (Ev.no (by simp) ?_)
          dsimp only
          refine Ev.step (fun k => by rw [perigeeref7_spread.j3]) ?_
          refine Ev.no (by simp) (Ev.yes (by omega) (Ev.yes (by simp only [List.length_append]; omega) ?_))
          simp only [Option.bind_some]
          refine Ev.no (by simp) ?_
          rw [show (((grp (zig (v - a))).length : Int)).toNat = (grp (zig (v - a))).length by omega, List.drop_left]
          obtain ⟨hv0, hv1⟩ := hv
          obtain ⟨ha0, ha1⟩ := ha
          simp only [List.length_append, List.length_cons, List.length_nil] at ho
          have fin : Ev (fun k => perigeeref7_spread.j4 k rest N out v 1) (out ++ v :: t, true) := by
            refine Ev.step (fun k => by rw [perigeeref7_spread.j4]) ?_
            refine rapp_ev rest N v 1 _ 1 out 0 (by omega) (by omega) (by omega) (by omega) ?_
            refine Ev.step (fun k => by rw [perigeeref7_spread.l1]) ?_
            refine Ev.no (by omega) (Ev.no (by simp only [List.length_append, List.length_replicate]; omega) ?_)
            simpa using ihh
          by_cases hn : v - a < 0
          · have hzz : (zig (v - a) : Int) = -2 * (v - a) - 1 := by unfold zig; rw [if_pos hn]; omega
            have e1 : Int.tmod (zig (v - a) : Int) 2 = 1 := by rw [Int.tmod_eq_emod_of_nonneg (by omega)]; omega
            have e2 : Int.tdiv (zig (v - a) : Int) 2 = -(v - a) - 1 := by rw [Int.tdiv_eq_ediv_of_nonneg (by omega)]; omega
            refine Ev.yes e1 ?_
            rw [e2, w64 (x := -(v - a) - 1) (by omega) (by omega), w64 (x := -(-(v - a) - 1)) (by omega) (by omega), w64 (x := -(-(v - a) - 1) - 1) (by omega) (by omega), w64 (x := a + (-(-(v - a) - 1) - 1)) (by omega) (by omega), show a + (-(-(v - a) - 1) - 1) = v by omega]
            exact fin
          · have hzz : (zig (v - a) : Int) = 2 * (v - a) := by unfold zig; rw [if_neg hn]; omega
            have e1 : ¬ Int.tmod (zig (v - a) : Int) 2 = 1 := by rw [Int.tmod_eq_emod_of_nonneg (by omega)]; omega
            have e2 : Int.tdiv (zig (v - a) : Int) 2 = v - a := by rw [Int.tdiv_eq_ediv_of_nonneg (by omega)]; omega
            refine Ev.no e1 ?_
            rw [e2, w64 (x := v - a) (by omega) (by omega), w64 (x := a + (v - a)) (by omega) (by omega), show a + (v - a) = v by omega]
            exact fin

theorem rspread_total (N : Int) : ∀ (d : Nat) (x0 out : List Int) (a : Int), x0.length ≤ d → out.length ≤ 5000 →
    ∃ l ok, Ev (fun k => perigeeref7_spread.l0 k x0 N out a) (l, ok) := by
  intro d
  induction d with
  | zero =>
    intro x0 out a hx ho
    obtain rfl := List.eq_nil_of_length_eq_zero (show x0.length = 0 by omega)
    refine ⟨out, ((out.length : Int) == N), ?_⟩
    refine Ev.step (fun k => by rw [perigeeref7_spread.l0]) ?_
    exact Ev.no (by simp) (Ev.now _)
  | succ d ih =>
    intro x0 out a hx ho
    by_cases h0 : x0.length = 0
    · obtain rfl := List.eq_nil_of_length_eq_zero h0
      refine ⟨out, ((out.length : Int) == N), ?_⟩
      refine Ev.step (fun k => by rw [perigeeref7_spread.l0]) ?_
      exact Ev.no (by simp) (Ev.now _)
    · -- what is behind the head
      have loop : ∀ (y : List Int) (s n : Int), y.length ≤ d → n ≤ 5000 → ∃ l ok, Ev (fun k => perigeeref7_spread.j4 k y N out s n) (l, ok) := by
        intro y s n hy hn
        have last : ∀ m : Nat, m ≤ 5000 → ∃ l ok, Ev (fun k => if ((out ++ List.replicate m s).length : Int) > 5000 then some (([] : List Int), false) else perigeeref7_spread.l0 k y N (out ++ List.replicate m s) s) (l, ok) := by
          intro m hm
          by_cases hgt : ((out ++ List.replicate m s).length : Int) > 5000
          · exact ⟨[], false, Ev.yes hgt (Ev.now _)⟩
          · obtain ⟨l, ok, he⟩ := ih y (out ++ List.replicate m s) s hy (by omega)
            exact ⟨l, ok, Ev.no hgt he⟩
        by_cases hneg : n < 0
        · obtain ⟨l, ok, he⟩ := last 0 (by omega)
          refine ⟨l, ok, ?_⟩
          refine Ev.step (fun k => by rw [perigeeref7_spread.j4]) ?_
          refine Ev.step (fun k => by rw [perigeeref7_spread.l1]) ?_
          refine Ev.no (by omega) ?_
          simpa using he
        · obtain ⟨l, ok, he⟩ := last n.toNat (by omega)
          refine ⟨l, ok, ?_⟩
          refine Ev.step (fun k => by rw [perigeeref7_spread.j4]) ?_
          refine rapp_ev y N s n _ n.toNat out 0 (by omega) (by omega) (by omega) (by omega) ?_
          refine Ev.step (fun k => by rw [perigeeref7_spread.l1]) ?_
          exact Ev.no (by omega) he
      have mid : ∀ (y : List Int) (b : Bool), y.length ≤ d + 1 → ∃ l ok, Ev (fun k => perigeeref7_spread.j2 k y N out a b) (l, ok) := by
        intro y b hy
        obtain ⟨z, n, hn, hn0, hn1⟩ := group_total y (mn (y.length : Int) 7) (by unfold mn; split <;> omega) (by unfold mn; split <;> omega) 8 0 0 (by omega)
        have hg : Ev (fun k => perigeeref7_group.f k y) (z, n) := by simpa [perigeeref7_group.f] using hn
        have bad : ∃ l ok, Ev (fun k => perigeeref7_spread.j3 k y N out a b z n true) (l, ok) := by
          refine ⟨[], false, ?_⟩
          refine Ev.step (fun k => by rw [perigeeref7_spread.j3]) ?_
          exact Ev.yes rfl (Ev.now _)
        by_cases hz : n = 0
        · obtain ⟨l, ok, he⟩ := bad
          refine ⟨l, ok, ?_⟩
          refine Ev.step (fun k => by rw [perigeeref7_spread.j2]) ?_
          exact Ev.bind hg (Ev.yes hz he)
        · have good : (b = true → z ≤ 5000) → ∃ l ok, Ev (fun k => perigeeref7_spread.j3 k y N out a b z n false) (l, ok) := by
            intro hb
            have hdl : (y.drop n.toNat).length ≤ d := by simp; omega
            cases b with
            | true =>
              obtain ⟨l, ok, he⟩ := loop (y.drop n.toNat) a z hdl (hb rfl)
              refine ⟨l, ok, ?_⟩
              refine Ev.step (fun k => by rw [perigeeref7_spread.j3]) ?_
              refine Ev.no (by simp) (Ev.yes hn0 (Ev.yes hn1 ?_))
              simp only [Option.bind_some]
              exact Ev.yes (by simp) he
            | false =>
              by_cases h2 : Int.tmod z 2 = 1
              · obtain ⟨l, ok, he⟩ := loop (y.drop n.toNat) (wrap64 (a + (wrap64 ((wrap64 (-(wrap64 (Int.tdiv z 2)))) - 1)))) 1 hdl (by omega)
                refine ⟨l, ok, ?_⟩
                refine Ev.step (fun k => by rw [perigeeref7_spread.j3]) ?_
                refine Ev.no (by simp) (Ev.yes hn0 (Ev.yes hn1 ?_))
                simp only [Option.bind_some]
                exact Ev.no (by simp) (Ev.yes h2 he)
              · obtain ⟨l, ok, he⟩ := loop (y.drop n.toNat) (wrap64 (a + (wrap64 (Int.tdiv z 2)))) 1 hdl (by omega)
                refine ⟨l, ok, ?_⟩
                refine Ev.step (fun k => by rw [perigeeref7_spread.j3]) ?_
                refine Ev.no (by simp) (Ev.yes hn0 (Ev.yes hn1 ?_))
                simp only [Option.bind_some]
                exact Ev.no (by simp) (Ev.no h2 he)
          cases b with
          | true =>
            by_cases h5 : z > 5000
            · obtain ⟨l, ok, he⟩ := bad
              refine ⟨l, ok, ?_⟩
              refine Ev.step (fun k => by rw [perigeeref7_spread.j2]) ?_
              refine Ev.bind hg (Ev.no hz (Ev.yes rfl ?_))
              dsimp only
              rw [decide_eq_true h5]
              exact he
            · obtain ⟨l, ok, he⟩ := good (fun _ => by omega)
              refine ⟨l, ok, ?_⟩
              refine Ev.step (fun k => by rw [perigeeref7_spread.j2]) ?_
              refine Ev.bind hg (Ev.no hz (Ev.yes rfl ?_))
              dsimp only
              rw [decide_eq_false h5]
              exact he
          | false =>
            obtain ⟨l, ok, he⟩ := good (by simp)
            refine ⟨l, ok, ?_⟩
            refine Ev.step (fun k => by rw [perigeeref7_spread.j2]) ?_
            exact Ev.bind hg (Ev.no hz (Ev.no (by simp) he))
      -- the head
      by_cases hrow : (∃ t, x0 = 128 :: 0 :: t) ∧ 2 < x0.length
      · obtain ⟨⟨t, ht⟩, hl2⟩ := hrow
        obtain ⟨l, ok, he⟩ := mid (x0.drop 2) true (by simp; omega)
        refine ⟨l, ok, rhead_ev (by omega) N out a _ ?_⟩
        intro b hb1 hb2
        obtain rfl := hb2 ⟨t, ht⟩ hl2
        refine Ev.step (fun k => by rw [perigeeref7_spread.j1]) ?_
        exact Ev.yes rfl (Ev.yes (by omega) he)
      · obtain ⟨l, ok, he⟩ := mid x0 false (by omega)
        refine ⟨l, ok, rhead_ev (by omega) N out a _ ?_⟩
        intro b hb1 hb2
        cases b with
        | true =>
          exact absurd (hb1 rfl) hrow
        | false =>
          refine Ev.step (fun k => by rw [perigeeref7_spread.j1]) ?_
          exact Ev.no (by simp) he

theorem rspread_enc {l : List Int} (h : l.length ≤ 5000) (hf : ∀ v ∈ l, Fit v) : Ev (fun k => perigeeref7_spread.f k (enc l)) (l, true) := by
  unfold perigeeref7_spread.f
  have := rspread_ev l.length h l.length l [] 0 (Nat.le_refl _) (by simp) hf ⟨by omega, by omega⟩
  have e0 : rd (enc l) 0 = ((l.length / 256 : Nat) : Int) := rfl
  have e1 : rd (enc l) 1 = ((l.length % 256 : Nat) : Int) := rfl
  refine Ev.no (by simp [enc]; omega) (Ev.yes (by simp [enc]; omega) (Ev.yes (by simp [enc]; omega) (Ev.yes (by simp [enc]; omega) ?_)))
  rw [e0, e1, w64 (x := ((l.length / 256 : Nat) : Int)) (by omega) (by omega), w64 (x := ((l.length % 256 : Nat) : Int)) (by omega) (by omega), w64 (x := ((l.length / 256 : Nat) : Int) * 256) (by omega) (by omega), w64 (by omega) (by omega), show ((l.length / 256 : Nat) : Int) * 256 + ((l.length % 256 : Nat) : Int) = (l.length : Int) by omega]
  exact this

theorem rspread_any (b : List Int) : ∃ l ok, Ev (fun k => perigeeref7_spread.f k b) (l, ok) := by
  unfold perigeeref7_spread.f
  by_cases h : (b.length : Int) < 2
  · exact ⟨[], false, Ev.yes h (Ev.now _)⟩
  · obtain ⟨l, ok, he⟩ := rspread_total (wrap64 ((wrap64 ((wrap64 (rd b 0)) * 256)) + (wrap64 (rd b 1)))) _ (b.drop 2) [] 0 (Nat.le_refl _) (by simp)
    exact ⟨l, ok, Ev.no h (Ev.yes (by omega) (Ev.yes (by omega) (Ev.yes (by omega) he)))⟩

theorem rspread_Enc {l : List Int} (h : Good l) : Ev (fun k => perigeeref7_Spread.f k (enc l)) (l, 0) := by
  unfold perigeeref7_Spread.f
  have hl := enc_len h.1 h.2
  refine Ev.no (by omega) (Ev.bind (rspread_enc h.1 h.2) (Ev.yes (by simp) (Ev.bind (rsqueezed_good h) (Ev.yes (by simp) (Ev.bind (equal_byte ?_) ?_)))))
  · dsimp only; omega
  · exact Ev.yes (by simp) (Ev.now _)

theorem rspread_Any {b : List Int} (hb : b.length ≤ 9223372036854775800) (hn : ∀ l, Good l → b ≠ enc l) : Ev (fun k => perigeeref7_Spread.f k b) ([], if b.length > 30000 then 2 else 3) := by
  unfold perigeeref7_Spread.f
  by_cases h : b.length > 30000
  · rw [if_pos h]
    exact Ev.yes (by omega) (Ev.now _)
  · rw [if_neg h]
    obtain ⟨l, ok, he⟩ := rspread_any b
    refine Ev.no (by omega) (Ev.bind he ?_)
    cases ok with
    | false => exact Ev.no (by simp) (Ev.now _)
    | true =>
      refine Ev.yes (by simp) ?_
      by_cases hg : Good l
      · have hl := enc_len hg.1 hg.2
        refine Ev.bind (rsqueezed_good hg) (Ev.yes (by simp) (Ev.bind (equal_byte (by dsimp only; omega)) ?_))
        exact Ev.no (by simpa using fun e => hn l hg e.symm) (Ev.now _)
      · exact Ev.bind (rsqueezed_bad hg) (Ev.no (by dsimp only; split <;> omega) (Ev.now _))

theorem TelemetrySqueezedMatchesSpec : perigeelaw7_TelemetrySqueezedMatchesSpec.Law := by
  intro l0 l1 ⟨_, h0, _⟩ ⟨_, h1, hb0⟩
  have hb : Byt l1 := hb0
  refine Ev.rounds (g := fun k => perigeelaw7_TelemetrySqueezedMatchesSpec.f k l0 l1) ?_
  have second : Ev (fun k => perigeelaw7_TelemetrySqueezedMatchesSpec.j0 k l1 false) true := by
    refine Ev.step (fun k => by rw [perigeelaw7_TelemetrySqueezedMatchesSpec.j0]) (Ev.no (by simp) ?_)
    rcases spread_Any hb with ⟨l, hl, rfl, he⟩ | ⟨hn, c, hc, hc2, hc3, he⟩
    · have := hl.1
      exact Ev.bind he (Ev.bind (rspread_Enc hl) (Ev.yes rfl (Ev.bind (equal_int (by dsimp only; omega)) (Ev.yes (by simp) (Ev.bind awake_ev (Ev.now _))))))
    · have e : c = if l1.length > 30000 then 2 else 3 := by
        split
        · rename_i h; exact hc2.2 h
        · rename_i h; rcases hc3 with h' | h'
          · exact absurd (hc2.1 h') h
          · exact h'
      rw [e] at he
      exact Ev.bind he (Ev.bind (rspread_Any (by omega) hn) (Ev.yes rfl (Ev.bind (equal_int (by simp)) (Ev.yes (by simp) (Ev.bind awake_ev (Ev.now _))))))
  unfold perigeelaw7_TelemetrySqueezedMatchesSpec.f
  by_cases hg : Good l0
  · have hl := enc_len hg.1 hg.2
    refine Ev.bind (squeezed_good hg) (Ev.bind (rsqueezed_good hg) (Ev.yes rfl (Ev.bind (equal_byte (by dsimp only; omega)) ?_)))
    simpa using second
  · refine Ev.bind (squeezed_bad hg) (Ev.bind (rsqueezed_bad hg) (Ev.yes rfl (Ev.bind (equal_byte (by simp)) ?_)))
    simpa using second

end Go.Proofs.Ytbkmohnmciojpaa.Pure

-- YtbkmohnmciojpaaLawTelemetrySqueezedMatchesSpec
namespace Go.Proofs.Ytbkmohnmciojpaa.telemetrySqueezedMatchesSpec
open Go.ChangeShapes Go.WideShapes Go.ChangeAt Go.RowKit Go.Proofs.Ytbkmohnmciojpaa.Open Go.Proofs.Ytbkmohnmciojpaa.P
open Go.ChangeMaps (open_string shut_string)
set_option linter.unusedVariables false
theorem own : ownKnob Try.prog.godebug = none := by kernel_rfl
theorem laidOut : laidOutB Try.prog = true := by kernel_rfl
set_option maxRecDepth 100000 in
theorem lifted (os : Os) (started : os.Started) (H : Type) (enc : TypeId × Value → H) :
    ReturnsInHanded {} Try.checked os 5 .any (Rows.telemetrySqueezedMatchesSpecSpec.pre6 enc Try.prog Try.f5 Rows.telemetrySqueezedMatchesSpecRow.domain false) (Rows.telemetrySqueezedMatchesSpecSpec.post enc Try.prog Try.f5 false true false false) := by
  refine returnsInHanded_of_change_sized (C := Try.checked) own started (by kernel_rfl) Try.func5
    (ChangeSpec.witness6 (enc := enc) (C := Try.checked) false ⟨#[], #[.slice none 0 0, .slice none 0 0], []⟩ 8 (by kernel_rfl) (by kernel_rfl) (by kernel_rfl) (by kernel_rfl)) ?_
  intro W base args ds gs before hval0 hW hcnd hsz0 _
  have hsz : (DataW.weightsEach Try.prog (Try.f5.params.toList ++ Rows.telemetrySqueezedMatchesSpecSpec.plain.varTypes Try.prog) (ds ++ gs)).all (· ≤ reachBytes) = true := hsz0
  have hval : ∀ (j : Nat) t v, Try.f5.params[j]? = some t → args[j]? = some v → Value.okWide Try.prog W .any base t v := hval0
  have hW' := hW
  obtain ⟨p, q, hA0, hV, rfl, hfz, hnd⟩ := hW
  have hA : DataW.TrodAll enc Try.prog W 0 (fun _ => true) true Try.f5.params.toList args.toList ds p := hA0
  rw [Try.params5] at hA hval hsz
  obtain ⟨v0, vs0, d0, ds0, p0, q0, hargs, rfl, rfl, h0, r0⟩ := trodAll_cons hA
  obtain ⟨v1, vs1, d1, ds1, p1, q1, rfl, rfl, rfl, h1, r1⟩ := trodAll_cons r0
  obtain ⟨rfl, rfl, rfl⟩ := trodAll_nil r1
  obtain rfl : args = #[v0, v1] := by cases args; simp_all
  obtain ⟨rfl, rfl⟩ := trodVars_none hV
  have k0 := h0
  have lt0 : ∀ x ∈ p0, x.block < W.heap.size := by obtain ⟨m, hm⟩ := k0; exact DataW.trod_lt m _ _ _ hm
  obtain ⟨A0, len0, c0, rfl⟩ := okWide_slice Try.underlying31 (hval 0 31 v0 rfl rfl)
  obtain ⟨l0, rfl, hc0, hr0, y0⟩ := param_slice (d := (Go.Proofs.YtbkmohnmciojpaaW.PrintWords.Kd.int .i64)) (ok := (OkL 8 OkI)) (j := 0) hsz rfl rfl h0 (opens_slice Try.underlying31 (by kernel_rfl) (by kernel_rfl) (opens_i64 Try.underlying3))
  have k1 := h1
  have lt1 : ∀ x ∈ p1, x.block < W.heap.size := by obtain ⟨m, hm⟩ := k1; exact DataW.trod_lt m _ _ _ hm
  obtain ⟨A1, len1, c1, rfl⟩ := okWide_slice Try.underlying32 (hval 1 32 v1 rfl rfl)
  obtain ⟨l1, rfl, hc1, hr1, y1⟩ := param_slice (d := (Go.Proofs.YtbkmohnmciojpaaW.PrintWords.Kd.int .u8)) (ok := (OkL 1 OkU8)) (j := 1) hsz rfl rfl h1 (opens_slice Try.underlying32 (by kernel_rfl) (by kernel_rfl) (opens_u8 Try.underlying5))
  clear hA0 hval0 hsz0 hsz
  obtain ⟨k, hk⟩ := Pure.TelemetrySqueezedMatchesSpec l0 l1 y0 y1
  refine (perigeelaw7_TelemetrySqueezedMatchesSpec.calls (r := true) (w := W) (hr0 := hr0) (hc0 := hc0) (hr1 := hr1) (hc1 := hc1) (h := hk)).mono fun e W' ⟨he, bel0⟩ => ?_
  have bel : Below W.heap.size W W' := bel0
  subst he
  exact ⟨_, rfl, _, _, _, [], _, [], hW', trodAll_mk1 (shut_bool Try.underlying4 _), (trodAll_cons_mk (Below.trod laidOut (by kernel_rfl) (of_decide_eq_true (by kernel_rfl)) k0 bel lt0) (trodAll_cons_mk (Below.trod laidOut (by kernel_rfl) (of_decide_eq_true (by kernel_rfl)) k1 bel lt1) trodAll_mk0)), rfl, bel.frame _, fun h => by cases h⟩
theorem over : Rows.telemetrySqueezedMatchesSpecRow.holds Try.pinned (OpenSpec.ofChange Rows.telemetrySqueezedMatchesSpecSpec) :=
  OpenClaim.holds_of_wide 5 Try.f5 rfl rfl rfl rfl rfl rfl rfl ⟨rfl, rfl, rfl, rfl, rfl⟩ rfl rfl rfl rfl rfl (by kernel_rfl) Try.func5 (by kernel_rfl)
    (of_decide_eq_true (by kernel_rfl)) (by unfold Func.isWrapper; first | (rw [if_pos (by decide +kernel)]; kernel_rfl) | (rw [if_neg (by decide +kernel)]; exact ⟨rfl, rfl⟩))
    (fun os started H enc _ => lifted os started H enc)
theorem proved : Rows.TelemetrySqueezedMatchesSpecSaid := over
#print axioms proved
end Go.Proofs.Ytbkmohnmciojpaa.telemetrySqueezedMatchesSpec
namespace Go.Proofs.Ytbkmohnmciojpaa
/-- The row, under a short name, for the claim. -/
theorem telemetrySqueezedMatchesSpec_holds : Rows.TelemetrySqueezedMatchesSpecSaid := telemetrySqueezedMatchesSpec.proved
end Go.Proofs.Ytbkmohnmciojpaa
