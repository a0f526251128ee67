/- Plain law, no program in sight: growing, shrinking, distances, squares. No condition. -/
import Derived.Test.YtldgjocjcbhkmaaReg
namespace Go.Proofs.Ytldgjocjcbhkmaa

/-! ### growing and shrinking sets -/
def near (k : Int) (a b : Nat) : Bool := decide ((a : Int) - b ≤ k) && decide ((b : Int) - a ≤ k)
theorem near_iff {k : Int} {a b : Nat} : near k a b = true ↔ (a : Int) - b ≤ k ∧ (b : Int) - a ≤ k := by simp [near]
theorem near_symm {k : Int} {a b : Nat} : near k a b = near k b a := by rw [Bool.eq_iff_iff, near_iff, near_iff]; exact And.comm
def horG (k : Int) (g : Grid) : Grid := fun i j => (List.range 80).any fun j' => near k j j' && g i j'
def verG (k : Int) (g : Grid) : Grid := fun i j => (List.range 80).any fun i' => near k i i' && g i' j
def growG (k : Int) (g : Grid) : Grid := fun i j => (List.range 80).any fun i' => (List.range 80).any fun j' => near k i i' && near k j j' && g i' j'
theorem horG_iff {k : Int} {g : Grid} {i j : Nat} : horG k g i j = true ↔ ∃ j', j' < 80 ∧ near k j j' = true ∧ g i j' = true := by simp [horG]
theorem verG_iff {k : Int} {g : Grid} {i j : Nat} : verG k g i j = true ↔ ∃ i', i' < 80 ∧ near k i i' = true ∧ g i' j = true := by simp [verG]
theorem growG_iff {k : Int} {g : Grid} {i j : Nat} : growG k g i j = true ↔ ∃ i', i' < 80 ∧ ∃ j', j' < 80 ∧ near k i i' = true ∧ near k j j' = true ∧ g i' j' = true := by
  simp [growG, and_assoc]
theorem growG_split (k : Int) (g : Grid) : growG k g = verG k (horG k g) := by
  funext i j
  rw [Bool.eq_iff_iff, growG_iff, verG_iff]
  constructor
  · rintro ⟨i', h1, j', h2, h3, h4, h5⟩
    exact ⟨i', h1, h3, horG_iff.2 ⟨j', h2, h4, h5⟩⟩
  · rintro ⟨i', h1, h3, h⟩
    obtain ⟨j', h2, h4, h5⟩ := horG_iff.1 h
    exact ⟨i', h1, j', h2, h3, h4, h5⟩
theorem growG_congr {k : Int} {g h : Grid} (e : GEq g h) : growG k g = growG k h := by
  funext i j
  rw [Bool.eq_iff_iff, growG_iff, growG_iff]
  constructor
  · rintro ⟨i', h1, j', h2, h3, h4, h5⟩; exact ⟨i', h1, j', h2, h3, h4, by rw [← e i' j' h1 h2]; exact h5⟩
  · rintro ⟨i', h1, j', h2, h3, h4, h5⟩; exact ⟨i', h1, j', h2, h3, h4, by rw [e i' j' h1 h2]; exact h5⟩
def notG (g : Grid) : Grid := fun i j => !g i j
theorem notG_congr {g h : Grid} (e : GEq g h) : GEq (notG g) (notG h) := fun i j a b => by rw [notG, notG, e i j a b]
theorem notG_notG (g : Grid) : notG (notG g) = g := by funext i j; simp [notG]
def shrinkG (k : Int) (g : Grid) : Grid := notG (growG k (notG g))
theorem shrinkG_congr {k : Int} {g h : Grid} (e : GEq g h) : shrinkG k g = shrinkG k h := by rw [shrinkG, shrinkG, growG_congr (notG_congr e)]
/-- A rectangle with k unit cells more on each side. -/
def enl (k : Int) (r : Rc) : Rc := ⟨r.x0 - k, r.y0 - k, r.x1 + k, r.y1 + k⟩
theorem enl_has {k : Int} (hk : 0 ≤ k) {r : Rc} (hr : r.ok = true) {i j : Nat} :
    (enl k r).has i j = true ↔ ∃ i', i' < 80 ∧ ∃ j', j' < 80 ∧ near k i i' = true ∧ near k j j' = true ∧ r.has i' j' = true := by
  obtain ⟨h1, h2, h3, h4, h5, h6⟩ := vRect_iff.1 hr
  rw [Rc.has_iff]
  simp only [enl]
  constructor
  · rintro ⟨a, b, c, d⟩
    have clamp : ∀ (t lo hi : Int), -40 ≤ lo → lo < hi → hi ≤ 40 → lo - k ≤ t → t < hi + k → ∃ n : Nat, n < 80 ∧ lo ≤ (n : Int) - 40 ∧ (n : Int) - 40 < hi ∧ t - ((n : Int) - 40) ≤ k ∧ ((n : Int) - 40) - t ≤ k := by
      intro t lo hi a1 a2 a3 a4 a5
      rcases Int.lt_or_le t lo with q | q
      · exact ⟨(lo + 40).toNat, by omega, by omega, by omega, by omega, by omega⟩
      · rcases Int.lt_or_le t hi with q' | q'
        · exact ⟨(t + 40).toNat, by omega, by omega, by omega, by omega, by omega⟩
        · exact ⟨(hi - 1 + 40).toNat, by omega, by omega, by omega, by omega, by omega⟩
    obtain ⟨i', e1, e2, e3, e4, e5⟩ := clamp _ _ _ h4 h5 h6 a b
    obtain ⟨j', f1, f2, f3, f4, f5⟩ := clamp _ _ _ h1 h2 h3 c d
    exact ⟨i', e1, j', f1, near_iff.2 ⟨by omega, by omega⟩, near_iff.2 ⟨by omega, by omega⟩, Rc.has_iff.2 ⟨e2, e3, f2, f3⟩⟩
  · rintro ⟨i', e1, j', f1, n1, n2, h⟩
    rw [near_iff] at n1 n2
    rw [Rc.has_iff] at h
    omega
theorem bits_enl {k : Int} (hk : 0 ≤ k) {rs : List Rc} (h : ∀ r ∈ rs, r.ok = true) : bitsOf (rs.map (enl k)) = growG k (bitsOf rs) := by
  funext i j
  rw [Bool.eq_iff_iff, growG_iff, bitsOf, List.any_map, List.any_eq_true]
  constructor
  · rintro ⟨r, hr, hh⟩
    obtain ⟨i', e1, j', f1, n1, n2, h'⟩ := (enl_has hk (h r hr)).1 hh
    exact ⟨i', e1, j', f1, n1, n2, List.any_eq_true.2 ⟨r, hr, h'⟩⟩
  · rintro ⟨i', e1, j', f1, n1, n2, h'⟩
    obtain ⟨r, hr, h''⟩ := List.any_eq_true.1 h'
    exact ⟨r, hr, (enl_has hk (h r hr)).2 ⟨i', e1, j', f1, n1, n2, h''⟩⟩
/-- Growing a region, rectangle by rectangle. -/
def growL (k : Int) (rs : List Rc) : List Rc := regionL (bitsOf (rs.map (enl k)))
theorem growL_eq {k : Int} (hk : 0 ≤ k) {rs : List Rc} (h : ∀ r ∈ rs, r.ok = true) : growL k rs = regionL (growG k (bitsOf rs)) := by rw [growL, bits_enl hk h]
def shrinkL (k : Int) (rs : List Rc) : List Rc := regionL (notG (bitsOf ((regionL (notG (bitsOf rs))).map (enl k))))
theorem shrinkL_eq {k : Int} (hk : 0 ≤ k) (rs : List Rc) : shrinkL k rs = regionL (shrinkG k (bitsOf rs)) := by
  rw [shrinkL, bits_enl hk (region_ok _), growG_congr (bits_region _), shrinkG]
theorem growL_region {k : Int} (hk : 0 ≤ k) (g : Grid) : growL k (regionL g) = regionL (growG k g) := by
  rw [growL_eq hk (region_ok g), growG_congr (bits_region g)]
theorem shrinkL_region {k : Int} (hk : 0 ≤ k) (g : Grid) : shrinkL k (regionL g) = regionL (shrinkG k g) := by
  rw [shrinkL_eq hk, shrinkG_congr (bits_region g)]

/-! ### the laws of growing and shrinking -/
def sub (g h : Grid) : Prop := ∀ i j, i < 80 → j < 80 → g i j = true → h i j = true
theorem grow_shrink {k : Int} {g h : Grid} : sub (growG k g) h ↔ sub g (shrinkG k h) := by
  constructor
  · intro H i j hi hj hg
    rw [shrinkG, notG, Bool.not_eq_true', Bool.eq_false_iff]
    intro hc
    obtain ⟨i', h1, j', h2, n1, n2, h3⟩ := growG_iff.1 hc
    have := H i' j' h1 h2 (growG_iff.2 ⟨i, hi, j, hj, near_symm.trans n1, near_symm.trans n2, hg⟩)
    simp [notG, this] at h3
  · intro H i j hi hj hg
    obtain ⟨i', h1, j', h2, n1, n2, h3⟩ := growG_iff.1 hg
    have := H i' j' h1 h2 h3
    rw [shrinkG, notG, Bool.not_eq_true', Bool.eq_false_iff] at this
    cases hh : h i j with
    | true => rfl
    | false => exact absurd (growG_iff.2 ⟨i, hi, j, hj, near_symm.trans n1, near_symm.trans n2, by simp [notG, hh]⟩) this
theorem sub_refl (g : Grid) : sub g g := fun _ _ _ _ h => h
theorem sub_trans {f g h : Grid} (a : sub f g) (b : sub g h) : sub f h := fun i j hi hj x => b i j hi hj (a i j hi hj x)
theorem sub_antisymm {g h : Grid} (a : sub g h) (b : sub h g) : GEq g h := fun i j hi hj => by
  rw [Bool.eq_iff_iff]; exact ⟨a i j hi hj, b i j hi hj⟩
theorem grow_mono {k : Int} {g h : Grid} (H : sub g h) : sub (growG k g) (growG k h) := fun i j hi hj hg => by
  obtain ⟨i', h1, j', h2, n1, n2, h3⟩ := growG_iff.1 hg
  exact growG_iff.2 ⟨i', h1, j', h2, n1, n2, H i' j' h1 h2 h3⟩
theorem shrink_mono {k : Int} {g h : Grid} (H : sub g h) : sub (shrinkG k g) (shrinkG k h) :=
  grow_shrink.1 (sub_trans (grow_shrink.2 (sub_refl _)) H)
def openG (k : Int) (g : Grid) : Grid := growG k (shrinkG k g)
def closeG (k : Int) (g : Grid) : Grid := shrinkG k (growG k g)
theorem open_sub (k : Int) (g : Grid) : sub (openG k g) g := grow_shrink.2 (sub_refl _)
theorem sub_close (k : Int) (g : Grid) : sub g (closeG k g) := grow_shrink.1 (sub_refl _)
theorem open_open (k : Int) (g : Grid) : GEq (openG k (openG k g)) (openG k g) :=
  sub_antisymm (open_sub k _) (grow_mono (grow_shrink.1 (sub_refl _)))
theorem close_close (k : Int) (g : Grid) : GEq (closeG k (closeG k g)) (closeG k g) :=
  sub_antisymm (shrink_mono (grow_shrink.2 (sub_refl _))) (sub_close k _)

/-! ### overlapping and distance -/
def Rc.over (a b : Rc) : Bool := a.ok && b.ok && decide (max a.x0 b.x0 < min a.x1 b.x1) && decide (max a.y0 b.y0 < min a.y1 b.y1)
theorem over_iff {a b : Rc} (ha : a.ok = true) (hb : b.ok = true) : a.over b = true ↔ ∃ i, i < 80 ∧ ∃ j, j < 80 ∧ a.has i j = true ∧ b.has i j = true := by
  obtain ⟨h1, h2, h3, h4, h5, h6⟩ := vRect_iff.1 ha
  obtain ⟨k1, k2, k3, k4, k5, k6⟩ := vRect_iff.1 hb
  simp only [Rc.over, ha, hb, Bool.true_and, Bool.and_eq_true, decide_eq_true_eq]
  constructor
  · rintro ⟨h, k⟩
    refine ⟨(max a.y0 b.y0 + 40).toNat, by omega, (max a.x0 b.x0 + 40).toNat, by omega, Rc.has_iff.2 ⟨?_, ?_, ?_, ?_⟩, Rc.has_iff.2 ⟨?_, ?_, ?_, ?_⟩⟩ <;> omega
  · rintro ⟨i, hi, j, hj, h, k⟩
    rw [Rc.has_iff] at h k
    omega
def meetL (a b : List Rc) : Bool := a.any fun r => b.any fun s => r.over s
theorem meetL_iff {a b : List Rc} (ha : ∀ r ∈ a, r.ok = true) (hb : ∀ r ∈ b, r.ok = true) :
    meetL a b = true ↔ ∃ i, i < 80 ∧ ∃ j, j < 80 ∧ bitsOf a i j = true ∧ bitsOf b i j = true := by
  simp only [meetL, List.any_eq_true, bitsOf]
  constructor
  · rintro ⟨r, hr, s, hs, h⟩
    obtain ⟨i, hi, j, hj, h1, h2⟩ := (over_iff (ha r hr) (hb s hs)).1 h
    exact ⟨i, hi, j, hj, ⟨r, hr, h1⟩, s, hs, h2⟩
  · rintro ⟨i, hi, j, hj, ⟨r, hr, h1⟩, s, hs, h2⟩
    exact ⟨r, hr, s, hs, (over_iff (ha r hr) (hb s hs)).2 ⟨i, hi, j, hj, h1, h2⟩⟩
/-- A region is empty just if its set is. -/
theorem regionL_nil {g : Grid} : regionL g = [] ↔ ∀ i j, i < 80 → j < 80 → g i j = false := by
  constructor
  · intro h i j hi hj
    have := bits_region g i j hi hj
    rw [h] at this
    simpa [bitsOf] using this.symm
  · intro h
    have e : GEq g (fun _ _ => false) := fun i j hi hj => h i j hi hj
    cases hr : regionL g with
    | nil => rfl
    | cons r rs =>
      have hm : r ∈ regionL g := by rw [hr]; simp
      have hok := region_ok g r hm
      obtain ⟨h1, h2, h3, h4, h5, h6⟩ := vRect_iff.1 hok
      have hb := bits_region g (r.y0 + 40).toNat (r.x0 + 40).toNat (by omega) (by omega)
      rw [h _ _ (by omega) (by omega)] at hb
      have : bitsOf (regionL g) (r.y0 + 40).toNat (r.x0 + 40).toNat = true := by
        rw [bitsOf, List.any_eq_true]
        exact ⟨r, hm, Rc.has_iff.2 ⟨by omega, by omega, by omega, by omega⟩⟩
      rw [this] at hb; cases hb
def cdR (a b : Rc) : Int := max (max (max (max 0 (b.x0 - a.x1 + 1)) (a.x0 - b.x1 + 1)) (b.y0 - a.y1 + 1)) (a.y0 - b.y1 + 1)
def distTo (a b : List Rc) : Int := a.foldl (fun m r => b.foldl (fun m s => min m (cdR r s)) m) 80
theorem foldl_min_le {α : Type} (f : α → Int) (l : List α) : ∀ (m k : Int), l.foldl (fun m s => min m (f s)) m ≤ k ↔ m ≤ k ∨ ∃ s ∈ l, f s ≤ k := by
  induction l with
  | nil => intro m k; simp
  | cons s l ih =>
    intro m k
    rw [List.foldl_cons, ih]
    constructor
    · rintro (h | ⟨t, ht, h⟩)
      · rcases Int.le_total m (f s) with q | q
        · left; omega
        · right; exact ⟨s, by simp, by omega⟩
      · right; exact ⟨t, by simp [ht], h⟩
    · rintro (h | ⟨t, ht, h⟩)
      · left; omega
      · rcases List.mem_cons.1 ht with rfl | ht
        · left; omega
        · right; exact ⟨t, ht, h⟩
theorem distTo_le {a b : List Rc} {k : Int} (hk : k < 80) : distTo a b ≤ k ↔ ∃ r ∈ a, ∃ s ∈ b, cdR r s ≤ k := by
  have : ∀ (l : List Rc) (m : Int), l.foldl (fun m r => b.foldl (fun m s => min m (cdR r s)) m) m ≤ k ↔ m ≤ k ∨ ∃ r ∈ l, ∃ s ∈ b, cdR r s ≤ k := by
    intro l
    induction l with
    | nil => intro m; simp
    | cons r l ih =>
      intro m
      rw [List.foldl_cons, ih, foldl_min_le]
      constructor
      · rintro ((h | h) | ⟨t, ht, h⟩)
        · left; exact h
        · right; exact ⟨r, by simp, h⟩
        · right; exact ⟨t, by simp [ht], h⟩
      · rintro (h | ⟨t, ht, h⟩)
        · left; left; exact h
        · rcases List.mem_cons.1 ht with rfl | ht
          · left; right; exact h
          · right; exact ⟨t, ht, h⟩
  rw [distTo, this]
  constructor
  · rintro (h | h)
    · omega
    · exact h
  · exact Or.inr
theorem cdR_iff {k : Int} (hk : 0 ≤ k) {r s : Rc} (hs : s.ok = true) (hr : r.ok = true) : cdR r s ≤ k ↔ ∃ i, i < 80 ∧ ∃ j, j < 80 ∧ (enl k r).has i j = true ∧ s.has i j = true := by
  obtain ⟨h1, h2, h3, h4, h5, h6⟩ := vRect_iff.1 hr
  obtain ⟨k1, k2, k3, k4, k5, k6⟩ := vRect_iff.1 hs
  unfold cdR
  constructor
  · intro h
    refine ⟨(max (r.y0 - k) s.y0 + 40).toNat, by omega, (max (r.x0 - k) s.x0 + 40).toNat, by omega, Rc.has_iff.2 ⟨?_, ?_, ?_, ?_⟩, Rc.has_iff.2 ⟨?_, ?_, ?_, ?_⟩⟩ <;> (try simp only [enl]) <;> omega
  · rintro ⟨i, hi, j, hj, h, h'⟩
    rw [Rc.has_iff] at h h'
    simp only [enl] at h
    omega
/-- The distance of two lists of valid rectangles is at most k just if the first one, grown by k, meets the second one. -/
theorem dist_grow {k : Int} (hk : 0 ≤ k) (hk' : k < 80) {a b : List Rc} (ha : ∀ r ∈ a, r.ok = true) (hb : ∀ r ∈ b, r.ok = true) :
    meetL (growL k a) b = decide (distTo a b ≤ k) := by
  rw [Bool.eq_iff_iff, decide_eq_true_eq, distTo_le hk', growL_eq hk ha, meetL_iff (region_ok _) hb]
  constructor
  · rintro ⟨i, hi, j, hj, h1, h2⟩
    rw [bits_region _ i j hi hj, ← bits_enl hk ha] at h1
    obtain ⟨q, hq, h3⟩ := List.any_eq_true.1 h1
    obtain ⟨r, hr, rfl⟩ := List.mem_map.1 hq
    obtain ⟨s, hs, h4⟩ := List.any_eq_true.1 h2
    exact ⟨r, hr, s, hs, (cdR_iff hk (hb s hs) (ha r hr)).2 ⟨i, hi, j, hj, h3, h4⟩⟩
  · rintro ⟨r, hr, s, hs, h⟩
    obtain ⟨i, hi, j, hj, h3, h4⟩ := (cdR_iff hk (hb s hs) (ha r hr)).1 h
    refine ⟨i, hi, j, hj, ?_, List.any_eq_true.2 ⟨s, hs, h4⟩⟩
    rw [bits_region _ i j hi hj, ← bits_enl hk ha]
    exact List.any_eq_true.2 ⟨enl k r, List.mem_map.2 ⟨r, hr, rfl⟩, h3⟩

/-! ### squares in a set -/
/-- How many set places stand one behind the other from place 80 - n on. -/
def upTo (p : Nat → Bool) : Nat → Nat
  | 0 => 0
  | n + 1 => if p (80 - (n + 1)) then upTo p n + 1 else 0
theorem upTo_le (p : Nat → Bool) : ∀ n, upTo p n ≤ n
  | 0 => Nat.le_refl _
  | n + 1 => by rw [upTo]; have := upTo_le p n; split <;> omega
theorem upTo_ge (p : Nat → Bool) : ∀ n k, n ≤ 80 → (k ≤ upTo p n ↔ k ≤ n ∧ ∀ a, a < k → p (80 - n + a) = true)
  | 0, k, _ => by
    rw [upTo]
    constructor
    · intro h; exact ⟨h, fun a ha => absurd ha (by omega)⟩
    · exact fun h => h.1
  | n + 1, k, hn => by
    rw [upTo]
    by_cases hp : p (80 - (n + 1)) = true
    · rw [if_pos hp]
      cases k with
      | zero => exact ⟨fun _ => ⟨by omega, fun a ha => absurd ha (by omega)⟩, fun _ => by omega⟩
      | succ k =>
        have ih := upTo_ge p n k (by omega)
        constructor
        · intro h
          obtain ⟨h1, h2⟩ := ih.1 (by omega)
          refine ⟨by omega, fun a ha => ?_⟩
          cases a with
          | zero => simpa using hp
          | succ a =>
            have := h2 a (by omega)
            rwa [show 80 - n + a = 80 - (n + 1) + (a + 1) from by omega] at this
        · rintro ⟨h1, h2⟩
          have := ih.2 ⟨by omega, fun a ha => by
            have := h2 (a + 1) (by omega)
            rwa [show 80 - (n + 1) + (a + 1) = 80 - n + a from by omega] at this⟩
          omega
    · rw [if_neg hp]
      constructor
      · intro h
        exact ⟨by omega, fun a ha => absurd ha (by omega)⟩
      · rintro ⟨h1, h2⟩
        rcases Nat.eq_zero_or_pos k with h | h
        · omega
        · exact absurd (by simpa using h2 0 h) hp
def hgt (g : Grid) (n x : Nat) : Nat := upTo (fun i => g i x) n
def wid (g : Grid) (k n m : Nat) : Nat := upTo (fun x => decide (k ≤ hgt g n x)) m
def fullG (k : Nat) (g : Grid) (i j : Nat) : Bool := decide (i + k ≤ 80) && decide (j + k ≤ 80) && (List.range k).all fun a => (List.range k).all fun b => g (i + a) (j + b)
theorem fullG_iff {k : Nat} {g : Grid} {i j : Nat} : fullG k g i j = true ↔ i + k ≤ 80 ∧ j + k ≤ 80 ∧ ∀ a, a < k → ∀ b, b < k → g (i + a) (j + b) = true := by
  simp [fullG, and_assoc]
theorem wid_full {g : Grid} {k i j : Nat} (hk : 0 < k) (hi : i ≤ 80) (hj : j ≤ 80) : decide (k ≤ wid g k (80 - i) (80 - j)) = fullG k g i j := by
  rw [Bool.eq_iff_iff, decide_eq_true_eq, fullG_iff, wid, upTo_ge _ _ _ (by omega)]
  have e : ∀ b, (decide (k ≤ hgt g (80 - i) (80 - (80 - j) + b)) = true ↔ i + k ≤ 80 ∧ ∀ a, a < k → g (i + a) (j + b) = true) := by
    intro b
    rw [decide_eq_true_eq, hgt, upTo_ge _ _ _ (by omega), show 80 - (80 - j) = j from by omega, show 80 - (80 - i) = i from by omega]
    constructor
    · rintro ⟨h1, h2⟩; exact ⟨by omega, h2⟩
    · rintro ⟨h1, h2⟩; exact ⟨by omega, h2⟩
  constructor
  · rintro ⟨h1, h2⟩
    have h3 := (e 0).1 (h2 0 hk)
    exact ⟨h3.1, by omega, fun a ha b hb => ((e b).1 (h2 b hb)).2 a ha⟩
  · rintro ⟨h1, h2, h3⟩
    exact ⟨by omega, fun b hb => (e b).2 ⟨h1, fun a ha => h3 a ha b hb⟩⟩
def inSq (k i j i0 j0 : Nat) : Bool := decide (i0 ≤ i) && decide (i < i0 + k) && decide (j0 ≤ j) && decide (j < j0 + k)
theorem inSq_iff {k i j i0 j0 : Nat} : inSq k i j i0 j0 = true ↔ i0 ≤ i ∧ i < i0 + k ∧ j0 ≤ j ∧ j < j0 + k := by simp [inSq, and_assoc]
def sqG (k : Nat) (g : Grid) : Grid := fun i j => (List.range 80).any fun i0 => (List.range 80).any fun j0 => fullG k g i0 j0 && inSq k i j i0 j0
theorem sqG_iff {k : Nat} {g : Grid} {i j : Nat} : sqG k g i j = true ↔ ∃ i0, i0 < 80 ∧ ∃ j0, j0 < 80 ∧ fullG k g i0 j0 = true ∧ i0 ≤ i ∧ i < i0 + k ∧ j0 ≤ j ∧ j < j0 + k := by
  simp [sqG, inSq_iff]
/-- Away from the border, opening by k leaves the squares of side 2k + 1. -/
theorem squares_open {g : Grid} {k : Nat} (h : ∀ i j, i < 80 → j < 80 → g i j = true → k ≤ i ∧ i + k < 80 ∧ k ≤ j ∧ j + k < 80) : GEq (sqG (2 * k + 1) g) (openG (k : Int) g) := by
  refine sub_antisymm ?_ ?_
  · intro i j hi hj hs
    obtain ⟨i0, a1, j0, a2, hf, b1, b2, b3, b4⟩ := sqG_iff.1 hs
    obtain ⟨f1, f2, f3⟩ := fullG_iff.1 hf
    refine growG_iff.2 ⟨i0 + k, by omega, j0 + k, by omega, near_iff.2 (by omega), near_iff.2 (by omega), ?_⟩
    rw [shrinkG, notG, Bool.not_eq_true', Bool.eq_false_iff]
    intro hc
    obtain ⟨i', c1, j', c2, n1, n2, hn⟩ := growG_iff.1 hc
    rw [near_iff] at n1 n2
    have := f3 (i' - i0) (by omega) (j' - j0) (by omega)
    rw [show i0 + (i' - i0) = i' from by omega, show j0 + (j' - j0) = j' from by omega] at this
    simp [notG, this] at hn
  · intro i j hi hj hs
    obtain ⟨i', c1, j', c2, n1, n2, hn⟩ := growG_iff.1 hs
    rw [near_iff] at n1 n2
    have hall : ∀ u v, u < 80 → v < 80 → near k i' u = true → near k j' v = true → g u v = true := by
      intro u v hu hv q1 q2
      cases hg : g u v with
      | true => rfl
      | false =>
        rw [shrinkG, notG, Bool.not_eq_true', Bool.eq_false_iff] at hn
        exact absurd (growG_iff.2 ⟨u, hu, v, hv, q1, q2, by simp [notG, hg]⟩) hn
    have m0 := h i' j' c1 c2 (hall i' j' c1 c2 (near_iff.2 (by omega)) (near_iff.2 (by omega)))
    refine sqG_iff.2 ⟨i' - k, by omega, j' - k, by omega, fullG_iff.2 ⟨?_, ?_, fun a ha b hb => hall _ _ (by omega) (by omega) (near_iff.2 (by omega)) (near_iff.2 (by omega))⟩, by omega, by omega, by omega, by omega⟩
    · omega
    · omega

end Go.Proofs.Ytldgjocjcbhkmaa
