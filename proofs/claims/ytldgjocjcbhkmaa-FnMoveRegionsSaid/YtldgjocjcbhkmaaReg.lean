/- Plain law, no program in sight: rectangles, sets of unit cells of the chip, the region of a set. No condition. -/
import Derived.Test.YtldgjocjcbhkmaaGeo
namespace Go.Proofs.Ytldgjocjcbhkmaa

/-! ### rectangles, sets of unit cells -/
structure Rc where
  x0 : Int
  y0 : Int
  x1 : Int
  y1 : Int
theorem Rc.ext' {a b : Rc} (h0 : a.x0 = b.x0) (h1 : a.y0 = b.y0) (h2 : a.x1 = b.x1) (h3 : a.y1 = b.y1) : a = b := by
  cases a; cases b; simp_all
def Rc.beq (a b : Rc) : Bool := decide (a.x0 = b.x0) && decide (a.y0 = b.y0) && decide (a.x1 = b.x1) && decide (a.y1 = b.y1)
theorem Rc.beq_iff {a b : Rc} : Rc.beq a b = true ↔ a = b := by
  constructor
  · intro h
    simp [Rc.beq] at h
    exact Rc.ext' h.1.1.1 h.1.1.2 h.1.2 h.2
  · intro h
    subst h
    simp [Rc.beq]
instance : DecidableEq Rc := fun a b => if h : Rc.beq a b = true then isTrue (Rc.beq_iff.1 h) else isFalse (fun e => h (Rc.beq_iff.2 e))

def Rc.ok (r : Rc) : Bool := vRect r.x0 r.y0 r.x1 r.y1
def Rc.has (r : Rc) (i k : Nat) : Bool := decide (r.y0 ≤ (i : Int) - 40) && decide ((i : Int) - 40 < r.y1) && decide (r.x0 ≤ (k : Int) - 40) && decide ((k : Int) - 40 < r.x1)
theorem Rc.has_iff {r : Rc} {i k : Nat} : r.has i k = true ↔ r.y0 ≤ (i : Int) - 40 ∧ (i : Int) - 40 < r.y1 ∧ r.x0 ≤ (k : Int) - 40 ∧ (k : Int) - 40 < r.x1 := by
  simp [Rc.has, and_assoc]
abbrev Grid := Nat → Nat → Bool
def bitsOf (rs : List Rc) : Grid := fun i k => rs.any fun r => r.has i k
def GEq (g h : Grid) : Prop := ∀ i k, i < 80 → k < 80 → g i k = h i k
theorem GEq.refl (g : Grid) : GEq g g := fun _ _ _ _ => rfl
theorem GEq.symm {g h : Grid} (e : GEq g h) : GEq h g := fun i k a b => (e i k a b).symm
theorem GEq.trans {f g h : Grid} (e : GEq f g) (e' : GEq g h) : GEq f h := fun i k a b => (e i k a b).trans (e' i k a b)

/-! ### the runs of a row -/
def atR (p : Nat → Bool) (k : Nat) : Bool := decide (k < 80) && p k
def prevR (p : Nat → Bool) (k : Nat) : Bool := decide (0 < k) && atR p (k - 1)
def runEnd (p : Nat → Bool) : Nat → Nat → Nat
  | 0, b => b
  | n + 1, b => if atR p b then runEnd p n (b + 1) else b
def isStart (p : Nat → Bool) (a : Nat) : Bool := atR p a && !prevR p a
def endR (p : Nat → Bool) (a : Nat) : Nat := runEnd p 81 a
def runsTo (p : Nat → Bool) : Nat → List (Nat × Nat)
  | 0 => []
  | x + 1 => runsTo p x ++ (if isStart p x then [(x, endR p x)] else [])
def runs (p : Nat → Bool) : List (Nat × Nat) := runsTo p 81

theorem runEnd_spec (p : Nat → Bool) : ∀ n b, 81 ≤ n + b → b ≤ runEnd p n b ∧ (∀ k, b ≤ k → k < runEnd p n b → atR p k = true) ∧ atR p (runEnd p n b) = false
  | 0, b, h => by
    refine ⟨Nat.le_refl _, fun k h1 h2 => absurd h2 (by rw [runEnd]; omega), ?_⟩
    have : ¬ b < 80 := by omega
    simp [runEnd, atR, this]
  | n + 1, b, h => by
    rw [runEnd]
    by_cases hb : atR p b = true
    · rw [if_pos hb]
      obtain ⟨h1, h2, h3⟩ := runEnd_spec p n (b + 1) (by omega)
      refine ⟨by omega, fun k hk1 hk2 => ?_, h3⟩
      by_cases e : k = b
      · subst e; exact hb
      · exact h2 k (by omega) hk2
    · rw [if_neg hb]
      exact ⟨Nat.le_refl _, fun k h1 h2 => absurd h2 (by omega), by simpa using hb⟩
theorem end_spec (p : Nat → Bool) (a : Nat) : a ≤ endR p a ∧ (∀ k, a ≤ k → k < endR p a → atR p k = true) ∧ atR p (endR p a) = false := runEnd_spec p 81 a (by omega)
theorem end_unique {p : Nat → Bool} {a e : Nat} (h1 : a ≤ e) (h2 : ∀ k, a ≤ k → k < e → atR p k = true) (h3 : atR p e = false) : endR p a = e := by
  obtain ⟨g1, g2, g3⟩ := end_spec p a
  rcases Nat.lt_trichotomy (endR p a) e with h | h | h
  · have := h2 _ g1 h; rw [g3] at this; cases this
  · exact h
  · have := g2 _ h1 h; rw [h3] at this; cases this
theorem atR_lt {p : Nat → Bool} {k : Nat} (h : atR p k = true) : k < 80 := by simp [atR] at h; exact h.1
theorem end_le {p : Nat → Bool} {a : Nat} (ha : a ≤ 80) : endR p a ≤ 80 := by
  obtain ⟨g1, g2, g3⟩ := end_spec p a
  rcases Nat.lt_or_ge 80 (endR p a) with h | h
  · have := atR_lt (g2 80 ha h); omega
  · exact h
theorem end_self {p : Nat → Bool} {a : Nat} (h : atR p a = false) : endR p a = a := end_unique (Nat.le_refl _) (fun k h1 h2 => absurd h2 (by omega)) h
theorem end_step {p : Nat → Bool} {a : Nat} (h : atR p a = true) : endR p a = endR p (a + 1) := by
  obtain ⟨g1, g2, g3⟩ := end_spec p (a + 1)
  refine end_unique (by omega) (fun k h1 h2 => ?_) g3
  by_cases e : k = a
  · subst e; exact h
  · exact g2 k (by omega) h2
theorem end_gt {p : Nat → Bool} {a : Nat} (h : atR p a = true) : a < endR p a := by
  rw [end_step h]; have := (end_spec p (a + 1)).1; omega

/-- From a place that is no run's inside, on to behind the run that starts there. -/
theorem runsTo_skip {p : Nat → Bool} {x : Nat} (h : atR p x = false) : runsTo p (x + 1) = runsTo p x := by
  rw [runsTo, isStart, h]; simp
theorem runsTo_inside (p : Nat → Bool) (x : Nat) : ∀ n, (∀ k, x ≤ k → k < x + n → prevR p k = true) → runsTo p (x + n) = runsTo p x
  | 0, _ => rfl
  | n + 1, h => by
    have h1 := h (x + n) (by omega) (by omega)
    rw [← Nat.add_assoc, runsTo, isStart, h1]
    simp
    exact runsTo_inside p x n (fun k a b => h k a (by omega))
theorem runsTo_run {p : Nat → Bool} {x : Nat} (hp : prevR p x = false) (h : atR p x = true) : runsTo p (endR p x + 1) = runsTo p x ++ [(x, endR p x)] := by
  obtain ⟨g1, g2, g3⟩ := end_spec p x
  have hgt := end_gt h
  have e : endR p x + 1 = (x + 1) + (endR p x - x) := by omega
  rw [e, runsTo_inside p (x + 1) _ ?_, runsTo, isStart, h, hp]
  · simp
  · intro k h1 h2
    have := g2 (k - 1) (by omega) (by omega)
    simp [prevR, this]; omega

/-! ### the places where a row changes -/
def changesTo (p : Nat → Bool) : Nat → List Nat
  | 0 => []
  | x + 1 => changesTo p x ++ (if atR p x != prevR p x then [x] else [])
def changes (p : Nat → Bool) : List Nat := changesTo p 81
def flat (l : List (Nat × Nat)) : List Nat := l.flatMap fun q => [q.1, q.2]
theorem flat_append (l m : List (Nat × Nat)) : flat (l ++ m) = flat l ++ flat m := by simp [flat]
theorem prevR_succ (p : Nat → Bool) (x : Nat) : prevR p (x + 1) = atR p x := by simp [prevR]
theorem flat_runsTo (p : Nat → Bool) : ∀ x, flat (runsTo p x) = changesTo p x ++ (if prevR p x then [endR p x] else [])
  | 0 => by simp [runsTo, changesTo, flat, prevR]
  | x + 1 => by
    rw [runsTo, flat_append, flat_runsTo p x, changesTo, prevR_succ]
    cases h1 : atR p x <;> cases h2 : prevR p x
    · simp [isStart, h1, h2, flat]
    · simp [isStart, h1, h2, flat, end_self h1]
    · simp [isStart, h1, h2, flat, end_step h1]
    · simp [isStart, h1, h2, flat, end_step h1]
theorem flat_runs (p : Nat → Bool) : flat (runs p) = changes p := by
  rw [runs, flat_runsTo, changes]
  simp [prevR, atR]

/-! ### what the runs tell of the row -/
theorem runsTo_mem {p : Nat → Bool} {x : Nat} {q : Nat × Nat} : q ∈ runsTo p x ↔ q.1 < x ∧ isStart p q.1 = true ∧ q.2 = endR p q.1 := by
  induction x with
  | zero => simp [runsTo]
  | succ x ih =>
    rw [runsTo, List.mem_append, ih]
    by_cases h : isStart p x = true
    · rw [if_pos h]
      constructor
      · rintro (⟨a, b, c⟩ | hq)
        · exact ⟨by omega, b, c⟩
        · simp at hq; subst hq; exact ⟨by simp, h, rfl⟩
      · rintro ⟨a, b, c⟩
        by_cases e : q.1 = x
        · right; simp; rw [← e, ← c]
        · left; exact ⟨by omega, b, c⟩
    · rw [if_neg h]
      constructor
      · rintro (⟨a, b, c⟩ | hq)
        · exact ⟨by omega, b, c⟩
        · simp at hq
      · rintro ⟨a, b, c⟩
        by_cases e : q.1 = x
        · rw [e] at b; exact absurd b h
        · left; exact ⟨by omega, b, c⟩
theorem runs_mem {p : Nat → Bool} {q : Nat × Nat} : q ∈ runs p ↔ isStart p q.1 = true ∧ q.2 = endR p q.1 := by
  rw [runs, runsTo_mem]
  constructor
  · exact fun h => h.2
  · intro h
    refine ⟨?_, h⟩
    have h1 := h.1
    simp [isStart] at h1
    have := atR_lt h1.1
    omega
theorem start_bounds {p : Nat → Bool} {a : Nat} (h : isStart p a = true) : a < endR p a ∧ endR p a ≤ 80 := by
  simp [isStart] at h
  have := atR_lt h.1
  exact ⟨end_gt h.1, end_le (by omega)⟩
/-- Every set place lies in a run. -/
theorem start_of (p : Nat → Bool) : ∀ k, atR p k = true → ∃ a, isStart p a = true ∧ a ≤ k ∧ k < endR p a
  | 0, h => ⟨0, by simp [isStart, h, prevR], Nat.le_refl _, end_gt h⟩
  | k + 1, h => by
    by_cases h1 : atR p k = true
    · obtain ⟨a, g1, g2, g3⟩ := start_of p k h1
      refine ⟨a, g1, by omega, ?_⟩
      obtain ⟨_, _, e3⟩ := end_spec p a
      rcases Nat.lt_or_ge (k + 1) (endR p a) with hh | hh
      · exact hh
      · have : endR p a = k + 1 := by omega
        rw [this, h] at e3; cases e3
    · exact ⟨k + 1, by simp [isStart, h, prevR_succ]; simpa using h1, Nat.le_refl _, end_gt h⟩
theorem runs_any (p : Nat → Bool) (k : Nat) : ((runs p).any fun q => decide (q.1 ≤ k) && decide (k < q.2)) = atR p k := by
  rw [Bool.eq_iff_iff, List.any_eq_true]
  constructor
  · rintro ⟨q, hq, h⟩
    rw [runs_mem] at hq
    simp at h
    rw [hq.2] at h
    exact (end_spec p q.1).2.1 k h.1 h.2
  · intro h
    obtain ⟨a, g1, g2, g3⟩ := start_of p k h
    exact ⟨(a, endR p a), runs_mem.2 ⟨g1, rfl⟩, by simp [g2, g3]⟩
theorem runs_congr {p q : Nat → Bool} (h : ∀ k, k < 80 → p k = q k) : runs p = runs q := by
  have h0 : ∀ k, atR p k = atR q k := fun k => by
    unfold atR
    by_cases hk : k < 80
    · rw [h k hk]
    · simp [hk]
  have h1 : ∀ k, prevR p k = prevR q k := fun k => by unfold prevR; rw [h0]
  have h2 : ∀ n k, runEnd p n k = runEnd q n k := by
    intro n
    induction n with
    | zero => intro k; rfl
    | succ n ih => intro k; rw [runEnd, runEnd, h0, ih]
  have h3 : ∀ x, runsTo p x = runsTo q x := by
    intro x
    induction x with
    | zero => rfl
    | succ x ih => rw [runsTo, runsTo, ih, isStart, isStart, h0, h1, endR, endR, h2]
  exact h3 81
theorem runs_inj {p q : Nat → Bool} (h : runs p = runs q) (k : Nat) (hk : k < 80) : p k = q k := by
  have h1 := runs_any p k
  have h2 := runs_any q k
  rw [h, h2] at h1
  simpa [atR, hk] using h1.symm
theorem runs_length (p : Nat → Bool) : (runs p).length ≤ 40 := by
  have h : ∀ x, 2 * (runsTo p x).length ≤ x + (if prevR p x then 1 else 0) := by
    intro x
    induction x with
    | zero => simp [runsTo]
    | succ x ih =>
      rw [runsTo, prevR_succ, List.length_append]
      cases h1 : atR p x <;> cases h2 : prevR p x <;> simp [isStart, h1, h2] at ih ⊢ <;> omega
  have h1 := h 80
  have h2 : runs p = runsTo p 80 := by rw [runs]; exact runsTo_skip (by simp [atR])
  rw [h2]
  split at h1 <;> omega

/-! ### bands of equal rows; the region of a set -/
def rowEq (g : Grid) (i j : Nat) : Bool := (List.range 80).all fun k => g i k == g j k
theorem rowEq_iff {g : Grid} {i j : Nat} : rowEq g i j = true ↔ ∀ k, k < 80 → g i k = g j k := by
  simp [rowEq]
def bandTo (g : Grid) (y : Nat) : Nat → Nat → Nat
  | 0, e => e
  | n + 1, e => if decide (e < 80) && rowEq g e y then bandTo g y n (e + 1) else e
def bandE (g : Grid) (y : Nat) : Nat := bandTo g y 80 (y + 1)
theorem bandTo_spec (g : Grid) (y : Nat) : ∀ n e, 80 ≤ n + e → e ≤ bandTo g y n e ∧ (∀ i, e ≤ i → i < bandTo g y n e → i < 80 ∧ rowEq g i y = true) ∧ (bandTo g y n e < 80 → rowEq g (bandTo g y n e) y = false)
  | 0, e, h => ⟨Nat.le_refl _, fun i h1 h2 => absurd h2 (by rw [bandTo]; omega), fun h1 => absurd h1 (by rw [bandTo]; omega)⟩
  | n + 1, e, h => by
    rw [bandTo]
    by_cases hb : (decide (e < 80) && rowEq g e y) = true
    · rw [if_pos hb]
      simp at hb
      obtain ⟨h1, h2, h3⟩ := bandTo_spec g y n (e + 1) (by omega)
      refine ⟨by omega, fun i hi1 hi2 => ?_, h3⟩
      by_cases he : i = e
      · subst he; exact hb
      · exact h2 i (by omega) hi2
    · rw [if_neg hb]
      refine ⟨Nat.le_refl _, fun i h1 h2 => absurd h2 (by omega), fun h1 => ?_⟩
      simp at hb
      simpa using hb h1
theorem band_spec (g : Grid) (y : Nat) : y < bandE g y ∧ (∀ i, y < i → i < bandE g y → i < 80 ∧ rowEq g i y = true) ∧ (bandE g y < 80 → rowEq g (bandE g y) y = false) := by
  obtain ⟨h1, h2, h3⟩ := bandTo_spec g y 80 (y + 1) (by omega)
  exact ⟨h1, fun i a b => h2 i a b, h3⟩
theorem band_unique {g : Grid} {y e : Nat} (h1 : y < e) (h2 : ∀ i, y < i → i < e → i < 80 ∧ rowEq g i y = true) (h3 : e < 80 → rowEq g e y = false) : bandE g y = e := by
  obtain ⟨g1, g2, g3⟩ := band_spec g y
  rcases Nat.lt_trichotomy (bandE g y) e with h | h | h
  · obtain ⟨a, b⟩ := h2 _ g1 h
    rw [g3 a] at b; cases b
  · exact h
  · obtain ⟨a, b⟩ := g2 _ h1 h
    rw [h3 a] at b; cases b
theorem band_le {g : Grid} {y : Nat} (hy : y < 80) : bandE g y ≤ 80 := by
  obtain ⟨g1, g2, g3⟩ := band_spec g y
  rcases Nat.lt_or_ge 80 (bandE g y) with h | h
  · have := (g2 80 (by omega) h).1; omega
  · exact h
def bandRects (g : Grid) (y e : Nat) : List Rc := (runs (g y)).map fun q => ⟨(q.1 : Int) - 40, (y : Int) - 40, (q.2 : Int) - 40, (e : Int) - 40⟩
def regFrom (g : Grid) : Nat → Nat → List Rc
  | 0, _ => []
  | n + 1, y => if y < 80 then bandRects g y (bandE g y) ++ regFrom g n (bandE g y) else []
def regionL (g : Grid) : List Rc := regFrom g 81 0
theorem regFrom_end (g : Grid) (n y : Nat) (h : 80 ≤ y) : regFrom g n y = [] := by
  cases n with
  | zero => rfl
  | succ n => rw [regFrom, if_neg (by omega)]
theorem regFrom_fuel (g : Grid) : ∀ n m y, 80 ≤ n + y → 80 ≤ m + y → regFrom g n y = regFrom g m y
  | 0, m, y, h, _ => by rw [regFrom_end g m y (by omega)]; rfl
  | n + 1, 0, y, _, h => by rw [regFrom_end g (n + 1) y (by omega)]; rfl
  | n + 1, m + 1, y, h1, h2 => by
    rw [regFrom, regFrom]
    by_cases hy : y < 80
    · rw [if_pos hy, if_pos hy]
      have := (band_spec g y).1
      rw [regFrom_fuel g n m _ (by omega) (by omega)]
    · rw [if_neg hy, if_neg hy]
/-- The region from row y on, whatever the fuel. -/
def regAt (g : Grid) (y : Nat) : List Rc := regFrom g 81 y
theorem regAt_zero (g : Grid) : regAt g 0 = regionL g := rfl
theorem regAt_end (g : Grid) {y : Nat} (h : 80 ≤ y) : regAt g y = [] := regFrom_end g 81 y h
theorem regAt_step (g : Grid) {y : Nat} (h : y < 80) : regAt g y = bandRects g y (bandE g y) ++ regAt g (bandE g y) := by
  rw [regAt, regFrom, if_pos h, regAt, regFrom_fuel g 80 81 _ (by omega) (by omega)]
theorem regAt_induct {P : Nat → Prop} (he : ∀ y, 80 ≤ y → P y) (g : Grid) (hs : ∀ y, y < 80 → P (bandE g y) → P y) : ∀ y, P y := by
  have : ∀ n y, 80 ≤ n + y → P y := by
    intro n
    induction n with
    | zero => intro y h; exact he y (by omega)
    | succ n ih =>
      intro y h
      rcases Nat.lt_or_ge y 80 with hy | hy
      · exact hs y hy (ih _ (by have := (band_spec g y).1; omega))
      · exact he y hy
  intro y
  exact this 80 y (by omega)
theorem regionL_congr {g h : Grid} (e : GEq g h) : regionL g = regionL h := by
  have hb : ∀ y, y < 80 → bandE g y = bandE h y := by
    intro y hy
    obtain ⟨g1, g2, g3⟩ := band_spec h y
    have hr : ∀ i, i < 80 → rowEq g i y = rowEq h i y := fun i hi => by
      rw [Bool.eq_iff_iff, rowEq_iff, rowEq_iff]
      constructor
      · intro q k hk; rw [← e i k hi hk, ← e y k hy hk]; exact q k hk
      · intro q k hk; rw [e i k hi hk, e y k hy hk]; exact q k hk
    refine band_unique g1 (fun i a b => ?_) (fun a => ?_)
    · obtain ⟨q1, q2⟩ := g2 i a b
      exact ⟨q1, by rw [hr i q1]; exact q2⟩
    · rw [hr _ a]; exact g3 a
  have : ∀ y, regAt g y = regAt h y := by
    refine regAt_induct (fun y hy => by rw [regAt_end g hy, regAt_end h hy]) g (fun y hy ih => ?_)
    have hr : bandRects g y (bandE g y) = bandRects h y (bandE g y) := by
      unfold bandRects
      rw [runs_congr (fun k hk => e y k hy hk)]
    rw [regAt_step g hy, regAt_step h hy, ih, ← hb y hy, hr]
  rw [← regAt_zero, ← regAt_zero]
  exact this 0

/-- The region's rectangles cover just the set. -/
theorem bits_regAt (g : Grid) : ∀ y i k, i < 80 → k < 80 → bitsOf (regAt g y) i k = (decide (y ≤ i) && g i k) := by
  refine regAt_induct (fun y hy i k hi _ => ?_) g (fun y hy ih i k hi hk => ?_)
  · rw [regAt_end g hy]
    simp [bitsOf]; omega
  · rw [regAt_step g hy, bitsOf, List.any_append]
    have h1 := ih i k hi hk
    rw [bitsOf] at h1
    rw [h1]
    obtain ⟨b1, b2, b3⟩ := band_spec g y
    have h2 : ((bandRects g y (bandE g y)).any fun r => r.has i k) = (decide (y ≤ i) && decide (i < bandE g y) && g y k) := by
      have ha := runs_any (g y) k
      rw [bandRects, List.any_map]
      by_cases hin : y ≤ i ∧ i < bandE g y
      · have : (fun q : Nat × Nat => decide (q.1 ≤ k) && decide (k < q.2)) = ((fun r : Rc => r.has i k) ∘ fun q : Nat × Nat => (⟨(q.1 : Int) - 40, (y : Int) - 40, (q.2 : Int) - 40, (bandE g y : Int) - 40⟩ : Rc)) := by
          funext q
          rw [Bool.eq_iff_iff]
          simp [Rc.has]
          omega
        rw [← this, ha]
        simp [atR, hk, hin]
      · have : ((fun r : Rc => r.has i k) ∘ fun q : Nat × Nat => (⟨(q.1 : Int) - 40, (y : Int) - 40, (q.2 : Int) - 40, (bandE g y : Int) - 40⟩ : Rc)) = fun _ => false := by
          funext q
          simp [Rc.has]
          omega
        rw [this]
        have hn : (decide (y ≤ i) && decide (i < bandE g y)) = false := by
          rw [Bool.eq_false_iff]; simp; omega
        rw [hn]
        simp
    rw [h2]
    by_cases c1 : y ≤ i
    · by_cases c2 : i < bandE g y
      · have : g y k = g i k := by
          by_cases e : i = y
          · rw [e]
          · exact (rowEq_iff.1 (b2 i (by omega) c2).2 k hk).symm
        have c3 : ¬ bandE g y ≤ i := by omega
        simp [c1, c2, c3, this]
      · have c3 : bandE g y ≤ i := by omega
        simp [c1, c2, c3]
    · have c3 : ¬ bandE g y ≤ i := by omega
      simp [c1, c3]
theorem bits_region (g : Grid) : GEq (bitsOf (regionL g)) g := fun i k hi hk => by
  rw [← regAt_zero, bits_regAt g 0 i k hi hk]; simp
theorem region_ok (g : Grid) : ∀ r ∈ regionL g, r.ok = true := by
  have : ∀ y, ∀ r ∈ regAt g y, r.ok = true := by
    refine regAt_induct (fun y hy r hr => ?_) g (fun y hy ih r hr => ?_)
    · rw [regAt_end g hy] at hr; simp at hr
    · rw [regAt_step g hy, List.mem_append] at hr
      rcases hr with hr | hr
      · rw [bandRects, List.mem_map] at hr
        obtain ⟨q, hq, rfl⟩ := hr
        rw [runs_mem] at hq
        have h1 := start_bounds hq.1
        have h2 := (band_spec g y).1
        have h3 := band_le (g := g) hy
        rw [Rc.ok, vRect_iff]
        simp only
        rw [hq.2]
        omega
      · exact ih r hr
  exact this 0
theorem region_length (g : Grid) : (regionL g).length ≤ 3200 := by
  have : ∀ y, (regAt g y).length ≤ 40 * (80 - y) := by
    refine regAt_induct (fun y hy => by rw [regAt_end g hy]; simp) g (fun y hy ih => ?_)
    rw [regAt_step g hy, List.length_append, bandRects, List.length_map]
    have h1 := runs_length (g y)
    have h2 := (band_spec g y).1
    omega
  exact this 0

/-! ### regions -/
def isReg (rs : List Rc) : Bool := decide (rs.length ≤ 3200) && rs.all Rc.ok && decide (regionL (bitsOf rs) = rs)
theorem isReg_iff {rs : List Rc} : isReg rs = true ↔ rs.length ≤ 3200 ∧ (∀ r ∈ rs, r.ok = true) ∧ regionL (bitsOf rs) = rs := by
  simp [isReg, and_assoc]
theorem isReg_region (g : Grid) : isReg (regionL g) = true := isReg_iff.2 ⟨region_length g, region_ok g, regionL_congr (bits_region g)⟩
theorem isReg_bits {rs : List Rc} (h : isReg rs = true) : regionL (bitsOf rs) = rs := (isReg_iff.1 h).2.2
theorem region_inj {g h : Grid} (e : regionL g = regionL h) : GEq g h :=
  (bits_region g).symm.trans (by rw [e]; exact bits_region h)

end Go.Proofs.Ytldgjocjcbhkmaa
