/- Plain law, no program in sight: areas, counts, rows, unions, single rectangles. No condition. -/
import Derived.Test.YtldgjocjcbhkmaaReg
namespace Go.Proofs.Ytldgjocjcbhkmaa

/-! ### areas and counts -/
def cntTo (p : Nat → Bool) : Nat → Nat
  | 0 => 0
  | x + 1 => cntTo p x + (if atR p x then 1 else 0)
def cnt (p : Nat → Bool) : Nat := cntTo p 80
def lenSum (l : List (Nat × Nat)) : Nat := (l.map fun q => q.2 - q.1).sum
theorem lenSum_append (l m : List (Nat × Nat)) : lenSum (l ++ m) = lenSum l + lenSum m := by simp [lenSum]
theorem lenSum_runsTo (p : Nat → Bool) : ∀ x, lenSum (runsTo p x) = cntTo p x + (if prevR p x then endR p x - x else 0)
  | 0 => by simp [runsTo, cntTo, lenSum, prevR]
  | x + 1 => by
    rw [runsTo, lenSum_append, lenSum_runsTo p x, cntTo, prevR_succ]
    cases h1 : atR p x <;> cases h2 : prevR p x
    · simp [isStart, h1, h2, lenSum]
    · simp [isStart, h1, h2, lenSum, end_self h1]
    · have h3 := end_gt h1
      have h4 := end_step h1
      simp [isStart, h1, h2, lenSum]; omega
    · have h3 := end_gt h1
      have h4 := end_step h1
      simp [isStart, h1, h2, lenSum]; omega
theorem lenSum_runs (p : Nat → Bool) : lenSum (runs p) = cnt p := by
  have h1 := lenSum_runsTo p 81
  have h2 : prevR p 81 = false := by simp [prevR, atR]
  have h3 : atR p 80 = false := by simp [atR]
  rw [h2] at h1
  rw [runs, h1, cntTo, h3, cnt]
  simp
theorem cnt_congr {p q : Nat → Bool} (h : ∀ k, k < 80 → p k = q k) : cnt p = cnt q := by
  have : ∀ x, cntTo p x = cntTo q x := by
    intro x
    induction x with
    | zero => rfl
    | succ x ih =>
      have h0 : atR p x = atR q x := by
        unfold atR
        by_cases hk : x < 80
        · rw [h x hk]
        · simp [hk]
      rw [cntTo, cntTo, ih, h0]
  exact this 80
theorem cntTo_le (p : Nat → Bool) : ∀ x, cntTo p x ≤ x
  | 0 => Nat.le_refl _
  | x + 1 => by rw [cntTo]; have := cntTo_le p x; split <;> omega
def cntRows (g : Grid) : Nat → Nat
  | 0 => 0
  | n + 1 => cntRows g n + cnt (g n)
def cntG (g : Grid) : Nat := cntRows g 80
theorem cntRows_le (g : Grid) : ∀ n, cntRows g n ≤ 80 * n
  | 0 => Nat.le_refl _
  | n + 1 => by rw [cntRows]; have := cntRows_le g n; have := cntTo_le (g n) 80; unfold cnt; omega
theorem cntG_congr {g h : Grid} (e : GEq g h) : cntG g = cntG h := by
  have : ∀ n, n ≤ 80 → cntRows g n = cntRows h n := by
    intro n
    induction n with
    | zero => intro _; rfl
    | succ n ih => intro hn; rw [cntRows, cntRows, ih (by omega), cnt_congr (fun k hk => e n k (by omega) hk)]
  exact this 80 (Nat.le_refl _)
theorem cntRows_band (g : Grid) (y : Nat) : ∀ n, (∀ i, y < i → i < y + n → rowEq g i y = true) → cntRows g (y + n) = cntRows g y + n * cnt (g y)
  | 0, _ => by simp
  | n + 1, h => by
    rw [← Nat.add_assoc, cntRows, cntRows_band g y n (fun i a b => h i a (by omega))]
    have : cnt (g (y + n)) = cnt (g y) := by
      cases n with
      | zero => rfl
      | succ n => exact cnt_congr (fun k hk => rowEq_iff.1 (h (y + (n + 1)) (by omega) (by omega)) k hk)
    rw [this, Nat.succ_mul]
    omega
def areaR (r : Rc) : Int := (r.x1 - r.x0) * (r.y1 - r.y0)
def areaL (rs : List Rc) : Int := (rs.map areaR).sum
theorem areaL_append (l m : List Rc) : areaL (l ++ m) = areaL l + areaL m := by simp [areaL]
theorem areaL_cons (r : Rc) (l : List Rc) : areaL (r :: l) = areaR r + areaL l := by simp [areaL]
theorem areaL_band (g : Grid) (y e : Nat) : areaL (bandRects g y e) = (cnt (g y) : Int) * ((e : Int) - y) := by
  rw [← lenSum_runs, bandRects]
  have : ∀ l : List (Nat × Nat), (∀ q ∈ l, q.1 ≤ q.2) → areaL (l.map fun q => (⟨(q.1 : Int) - 40, (y : Int) - 40, (q.2 : Int) - 40, (e : Int) - 40⟩ : Rc)) = (lenSum l : Int) * ((e : Int) - y) := by
    intro l
    induction l with
    | nil => intro _; simp [areaL, lenSum]
    | cons q l ih =>
      intro h
      have hq := h q (by simp)
      have h1 : lenSum (q :: l) = (q.2 - q.1) + lenSum l := by simp [lenSum]
      rw [List.map_cons, areaL_cons, ih (fun q' hq' => h q' (by simp [hq'])), h1, areaR]
      simp only
      rw [Int.natCast_add, Int.add_mul, Int.natCast_sub hq]
      congr 1
      congr 1 <;> omega
  refine this _ (fun q hq => ?_)
  rw [runs_mem] at hq
  have := start_bounds hq.1
  omega
theorem areaL_regAt (g : Grid) : ∀ y, y ≤ 80 → areaL (regAt g y) + (cntRows g y : Int) = (cntG g : Int) := by
  refine regAt_induct (fun y hy h => ?_) g (fun y hy ih _ => ?_)
  · have : y = 80 := by omega
    rw [regAt_end g hy, this, cntG]
    simp [areaL]
  · have hb := band_le (g := g) hy
    obtain ⟨b1, b2, b3⟩ := band_spec g y
    have h1 := ih hb
    have h2 := cntRows_band g y (bandE g y - y) (fun i a b => (b2 i a (by omega)).2)
    have e : y + (bandE g y - y) = bandE g y := by omega
    rw [e] at h2
    rw [regAt_step g hy, areaL_append, areaL_band]
    rw [h2] at h1
    rw [Int.natCast_add, Int.natCast_mul, Int.natCast_sub (by omega), Int.mul_comm] at h1
    omega
theorem areaL_region (g : Grid) : areaL (regionL g) = (cntG g : Int) := by
  have := areaL_regAt g 0 (by omega)
  rw [regAt_zero] at this
  simpa [cntRows] using this
/-- The area of a region is the number of its unit cells. -/
theorem areaL_reg {rs : List Rc} (h : isReg rs = true) : areaL rs = (cntG (bitsOf rs) : Int) := by
  have := areaL_region (bitsOf rs)
  rwa [isReg_bits h] at this
theorem cntG_le (g : Grid) : cntG g ≤ 6400 := cntRows_le g 80
theorem areaL_le {rs : List Rc} (h : isReg rs = true) : areaL rs ≤ 6400 := by
  rw [areaL_reg h]; have := cntG_le (bitsOf rs); omega
/-- Counting along the flat array. -/
def cntFlat (g : Grid) : Nat → Nat
  | 0 => 0
  | n + 1 => cntFlat g n + (if g (n / 80) (n % 80) then 1 else 0)
theorem cntFlat_rows (g : Grid) : ∀ r x, x ≤ 80 → cntFlat g (80 * r + x) = cntRows g r + cntTo (g r) x := by
  have step : ∀ r, cntFlat g (80 * r) = cntRows g r → ∀ x, x ≤ 80 → cntFlat g (80 * r + x) = cntRows g r + cntTo (g r) x := by
    intro r h x
    induction x with
    | zero => intro _; simpa [cntTo] using h
    | succ x ih =>
      intro hx
      rw [← Nat.add_assoc, cntFlat, ih (by omega), cntTo]
      have e1 : (80 * r + x) / 80 = r := by omega
      have e2 : (80 * r + x) % 80 = x := by omega
      have e3 : atR (g r) x = g r x := by simp [atR]; omega
      rw [e1, e2, e3]
      omega
  intro r
  induction r with
  | zero => exact step 0 (by simp [cntFlat, cntRows])
  | succ r ih =>
    refine step (r + 1) ?_
    have := ih 80 (Nat.le_refl _)
    rw [show 80 * (r + 1) = 80 * r + 80 from by omega, this, cntRows, cnt]
theorem cntFlat_all (g : Grid) : cntFlat g 6400 = cntG g := by
  have := cntFlat_rows g 80 0 (by omega)
  simpa [cntTo, cntG] using this

/-! ### one row of a region -/
def onRow (i : Nat) (r : Rc) : Bool := decide (r.y0 ≤ (i : Int) - 40) && decide ((i : Int) - 40 < r.y1)
def rowOf (rs : List Rc) (i : Nat) : List Int := (rs.filter (onRow i)).flatMap fun r => [r.x0, r.x1]
theorem rowOf_append (l m : List Rc) (i : Nat) : rowOf (l ++ m) i = rowOf l i ++ rowOf m i := by simp [rowOf]
theorem rowOf_regAt (g : Grid) : ∀ y i, i < 80 → rowOf (regAt g y) i = if y ≤ i then (changes (g i)).map (fun k : Nat => (k : Int) - 40) else [] := by
  refine regAt_induct (fun y hy i hi => ?_) g (fun y hy ih i hi => ?_)
  · rw [regAt_end g hy, if_neg (by omega)]; rfl
  · obtain ⟨b1, b2, b3⟩ := band_spec g y
    rw [regAt_step g hy, rowOf_append, ih i hi]
    by_cases c1 : y ≤ i
    · rw [if_pos c1]
      by_cases c2 : i < bandE g y
      · rw [if_neg (by omega), List.append_nil]
        have hr : runs (g y) = runs (g i) := by
          by_cases e : i = y
          · rw [e]
          · exact runs_congr (fun k hk => (rowEq_iff.1 (b2 i (by omega) c2).2 k hk).symm)
        rw [← flat_runs, ← hr, bandRects, rowOf]
        have hf : ∀ l : List (Nat × Nat), ((l.map fun q => (⟨(q.1 : Int) - 40, (y : Int) - 40, (q.2 : Int) - 40, (bandE g y : Int) - 40⟩ : Rc)).filter (onRow i)).flatMap (fun r => [r.x0, r.x1]) = (flat l).map (fun k : Nat => (k : Int) - 40) := by
          intro l
          induction l with
          | nil => rfl
          | cons q l ih2 =>
            have ho : onRow i ⟨(q.1 : Int) - 40, (y : Int) - 40, (q.2 : Int) - 40, (bandE g y : Int) - 40⟩ = true := by simp [onRow]; omega
            rw [List.map_cons, List.filter_cons, if_pos ho, List.flatMap_cons, ih2]
            simp [flat]
        exact hf _
      · rw [if_pos (by omega)]
        have hn : rowOf (bandRects g y (bandE g y)) i = [] := by
          rw [rowOf, bandRects]
          have : ((runs (g y)).map fun q => (⟨(q.1 : Int) - 40, (y : Int) - 40, (q.2 : Int) - 40, (bandE g y : Int) - 40⟩ : Rc)).filter (onRow i) = [] := by
            rw [List.filter_eq_nil_iff]
            intro r hr
            rw [List.mem_map] at hr
            obtain ⟨q, _, rfl⟩ := hr
            simp [onRow]; omega
          rw [this]; rfl
        rw [hn, List.nil_append]
    · rw [if_neg c1, if_neg (by omega), List.append_nil, rowOf, bandRects]
      have : ((runs (g y)).map fun q => (⟨(q.1 : Int) - 40, (y : Int) - 40, (q.2 : Int) - 40, (bandE g y : Int) - 40⟩ : Rc)).filter (onRow i) = [] := by
        rw [List.filter_eq_nil_iff]
        intro r hr
        rw [List.mem_map] at hr
        obtain ⟨q, _, rfl⟩ := hr
        simp [onRow]; omega
      rw [this]; rfl
theorem rowOf_reg {rs : List Rc} (h : isReg rs = true) {i : Nat} (hi : i < 80) : rowOf rs i = (changes (bitsOf rs i)).map (fun k : Nat => (k : Int) - 40) := by
  have := rowOf_regAt (bitsOf rs) 0 i hi
  rw [regAt_zero, isReg_bits h, if_pos (Nat.zero_le _)] at this
  exact this

/-! ### unions, intersections; single rectangles -/
def orG (g h : Grid) : Grid := fun i j => g i j || h i j
def andG (g h : Grid) : Grid := fun i j => g i j && h i j
theorem cntG_or_and (g h : Grid) : cntG (orG g h) + cntG (andG g h) = cntG g + cntG h := by
  have h1 : ∀ (p q : Nat → Bool) x, cntTo (fun k => p k || q k) x + cntTo (fun k => p k && q k) x = cntTo p x + cntTo q x := by
    intro p q x
    induction x with
    | zero => rfl
    | succ x ih =>
      have ho : atR (fun k => p k || q k) x = (atR p x || atR q x) := by unfold atR; by_cases hx : x < 80 <;> simp [hx]
      have ha : atR (fun k => p k && q k) x = (atR p x && atR q x) := by unfold atR; by_cases hx : x < 80 <;> simp [hx]
      rw [cntTo, cntTo, cntTo, cntTo, ho, ha]
      generalize atR p x = b
      generalize atR q x = c
      cases b <;> cases c <;> simp <;> omega
  have h2 : ∀ n, cntRows (orG g h) n + cntRows (andG g h) n = cntRows g n + cntRows h n := by
    intro n
    induction n with
    | zero => rfl
    | succ n ih =>
      have := h1 (g n) (h n) 80
      simp only [cntRows, cnt] at *
      have e1 : cntTo (orG g h n) 80 = cntTo (fun k => g n k || h n k) 80 := rfl
      have e2 : cntTo (andG g h n) 80 = cntTo (fun k => g n k && h n k) 80 := rfl
      omega
  exact h2 80
theorem orG_congr {g g' h h' : Grid} (a : GEq g g') (b : GEq h h') : GEq (orG g h) (orG g' h') := fun i j hi hj => by rw [orG, orG, a i j hi hj, b i j hi hj]
theorem andG_congr {g g' h h' : Grid} (a : GEq g g') (b : GEq h h') : GEq (andG g h) (andG g' h') := fun i j hi hj => by rw [andG, andG, a i j hi hj, b i j hi hj]
theorem bits_append (a b : List Rc) : bitsOf (a ++ b) = orG (bitsOf a) (bitsOf b) := by funext i j; simp [bitsOf, orG]
theorem bits_cons (r : Rc) (b : List Rc) : bitsOf (r :: b) = orG (bitsOf [r]) (bitsOf b) := bits_append [r] b
theorem regAt_empty {g : Grid} : ∀ y, (∀ i, y ≤ i → i < 80 → ∀ k, k < 80 → g i k = false) → regAt g y = [] := by
  refine regAt_induct (fun y hy _ => regAt_end g hy) g (fun y hy ih h => ?_)
  obtain ⟨b1, b2, b3⟩ := band_spec g y
  rw [regAt_step g hy, ih (fun i a b => h i (by omega) b), List.append_nil, bandRects]
  have : runs (g y) = [] := by
    cases hr : runs (g y) with
    | nil => rfl
    | cons q l =>
      have hq : q ∈ runs (g y) := by rw [hr]; simp
      rw [runs_mem] at hq
      have h1 := hq.1
      simp [isStart, atR] at h1
      rw [h y (Nat.le_refl _) hy q.1 h1.1.1] at h1
      simp at h1
  rw [this]; rfl
theorem runs_interval {p : Nat → Bool} {a b : Nat} (hab : a < b) (hb : b ≤ 80) (h : ∀ k, k < 80 → p k = (decide (a ≤ k) && decide (k < b))) : runs p = [(a, b)] := by
  have hat : ∀ k, atR p k = (decide (a ≤ k) && decide (k < b)) := by
    intro k
    rw [atR]
    by_cases hk : k < 80
    · rw [h k hk]; simp [hk]
    · have : ¬ k < b := by omega
      simp [hk, this]
  have hend : endR p a = b := by
    refine end_unique (by omega) (fun k h1 h2 => ?_) ?_
    · rw [hat]; simp; omega
    · rw [hat]; simp
  have hprev : ∀ k, prevR p k = (decide (0 < k) && (decide (a ≤ k - 1) && decide (k - 1 < b))) := fun k => by rw [prevR, hat]
  have hst : ∀ k, isStart p k = decide (k = a) := by
    intro k
    rw [isStart, hat, hprev, Bool.eq_iff_iff]
    simp
    omega
  have hto : ∀ x, runsTo p x = if a < x then [(a, b)] else [] := by
    intro x
    induction x with
    | zero => simp [runsTo]
    | succ x ih =>
      rw [runsTo, ih, hst]
      by_cases e : x = a
      · subst e; simp [hend]
      · by_cases e2 : a < x
        · have : a < x + 1 := by omega
          simp [e, e2, this]
        · have : ¬ a < x + 1 := by omega
          simp [e, e2, this]
  rw [runs, hto, if_pos (by omega)]
theorem region_single {r : Rc} (hr : r.ok = true) : regionL (bitsOf [r]) = [r] := by
  obtain ⟨h1, h2, h3, h4, h5, h6⟩ := vRect_iff.1 hr
  have hg : ∀ i k, bitsOf [r] i k = r.has i k := fun i k => by simp [bitsOf]
  have ha : ∃ a : Nat, (a : Int) = r.y0 + 40 := ⟨(r.y0 + 40).toNat, by omega⟩
  have hb : ∃ b : Nat, (b : Int) = r.y1 + 40 := ⟨(r.y1 + 40).toNat, by omega⟩
  have hc : ∃ c : Nat, (c : Int) = r.x0 + 40 := ⟨(r.x0 + 40).toNat, by omega⟩
  have hd : ∃ d : Nat, (d : Int) = r.x1 + 40 := ⟨(r.x1 + 40).toNat, by omega⟩
  obtain ⟨a, ha⟩ := ha
  obtain ⟨b, hb⟩ := hb
  obtain ⟨c, hc⟩ := hc
  obtain ⟨d, hd⟩ := hd
  have hhas : ∀ i k, bitsOf [r] i k = (decide (a ≤ i) && decide (i < b) && (decide (c ≤ k) && decide (k < d))) := by
    intro i k
    rw [hg, Bool.eq_iff_iff, Rc.has_iff]
    simp
    omega
  have hout : ∀ i, (i < a ∨ b ≤ i) → ∀ k, bitsOf [r] i k = false := by
    intro i hi k
    rw [hhas, Bool.eq_false_iff]
    simp
    omega
  have hmid : ∀ i, a ≤ i → i < b → ∀ k, bitsOf [r] i k = (decide (c ≤ k) && decide (k < d)) := by
    intro i h1 h2 k
    rw [hhas]
    simp [h1, h2]
  have hband : bandE (bitsOf [r]) a = b := by
    refine band_unique (by omega) (fun i q1 q2 => ⟨by omega, rowEq_iff.2 (fun k _ => ?_)⟩) (fun q => ?_)
    · rw [hmid i (by omega) q2 k, hmid a (Nat.le_refl _) (by omega) k]
    · rw [Bool.eq_false_iff]
      intro hq
      have := rowEq_iff.1 hq c (by omega)
      rw [hout b (Or.inr (Nat.le_refl _)) c, hmid a (Nat.le_refl _) (by omega) c] at this
      simp at this
      omega
  have hmain : regAt (bitsOf [r]) a = [r] := by
    rw [regAt_step _ (by omega), hband, regAt_empty b (fun i q1 _ k _ => hout i (Or.inr q1) k), List.append_nil, bandRects,
      runs_interval (a := c) (b := d) (by omega) (by omega) (fun k _ => hmid a (Nat.le_refl _) (by omega) k)]
    simp only [List.map_cons, List.map_nil]
    congr 1
    exact Rc.ext' (by simp only; omega) (by simp only; omega) (by simp only; omega) (by simp only; omega)
  by_cases h0 : a = 0
  · rw [h0] at hmain; rw [← regAt_zero]; exact hmain
  · have hb0 : bandE (bitsOf [r]) 0 = a := by
      refine band_unique (by omega) (fun i q1 q2 => ⟨by omega, rowEq_iff.2 (fun k _ => ?_)⟩) (fun q => ?_)
      · rw [hout i (Or.inl q2) k, hout 0 (Or.inl (by omega)) k]
      · rw [Bool.eq_false_iff]
        intro hq
        have := rowEq_iff.1 hq c (by omega)
        rw [hout 0 (Or.inl (by omega)) c, hmid a (Nat.le_refl _) (by omega) c] at this
        simp at this
        omega
    have hr0 : runs (bitsOf [r] 0) = [] := by
      cases hrr : runs (bitsOf [r] 0) with
      | nil => rfl
      | cons q l =>
        have hq : q ∈ runs (bitsOf [r] 0) := by rw [hrr]; simp
        rw [runs_mem] at hq
        have h1 := hq.1
        simp [isStart, atR] at h1
        rw [hout 0 (Or.inl (by omega)) q.1] at h1
        simp at h1
    rw [← regAt_zero, regAt_step _ (by omega), hb0, hmain, bandRects, hr0]
    rfl
theorem isReg_single {r : Rc} (hr : r.ok = true) : isReg [r] = true := isReg_iff.2 ⟨by simp, by simpa using hr, region_single hr⟩
theorem cnt_single {r : Rc} (hr : r.ok = true) : areaR r = (cntG (bitsOf [r]) : Int) := by
  have := areaL_reg (isReg_single hr)
  simpa [areaL] using this
/-- What rectangles cover is at most the sum of their areas. -/
theorem cnt_le_area {rs : List Rc} (h : ∀ r ∈ rs, r.ok = true) : (cntG (bitsOf rs) : Int) ≤ areaL rs := by
  induction rs with
  | nil =>
    have : cntG (bitsOf []) = 0 := by
      have h1 := areaL_region (bitsOf [])
      have h2 : regionL (bitsOf []) = [] := by rw [← regAt_zero]; exact regAt_empty 0 (fun i _ _ k _ => by simp [bitsOf])
      rw [h2] at h1
      simpa [areaL] using h1.symm
    rw [this]; simp [areaL]
  | cons r rs ih =>
    have h1 := cntG_or_and (bitsOf [r]) (bitsOf rs)
    have h2 := ih (fun q hq => h q (by simp [hq]))
    have h3 := cnt_single (h r (by simp))
    rw [areaL_cons, bits_cons, h3]
    omega

end Go.Proofs.Ytldgjocjcbhkmaa
