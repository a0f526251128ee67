/- Plain law, no program in sight: moving rectangles and sets of unit cells. No condition. -/
import Derived.Test.YtldgjocjcbhkmaaMov4
import Derived.Test.YtldgjocjcbhkmaaRegA
namespace Go.Proofs.Ytldgjocjcbhkmaa

/-! ### moving rectangles and sets -/
theorem turn0 (x y : Int) : turnX 0 x y = x ∧ turnY 0 x y = y := ⟨rfl, rfl⟩
theorem turn1 (x y : Int) : turnX 1 x y = -y ∧ turnY 1 x y = x := ⟨rfl, rfl⟩
theorem turn2 (x y : Int) : turnX 2 x y = -x ∧ turnY 2 x y = -y := ⟨rfl, rfl⟩
theorem turn3 (x y : Int) : turnX 3 x y = -(-y) ∧ turnY 3 x y = -x := ⟨rfl, rfl⟩
theorem turn4 (x y : Int) : turnX 4 x y = x ∧ turnY 4 x y = -y := ⟨rfl, rfl⟩
theorem turn5 (x y : Int) : turnX 5 x y = -(-y) ∧ turnY 5 x y = x := ⟨rfl, rfl⟩
theorem turn6 (x y : Int) : turnX 6 x y = -x ∧ turnY 6 x y = -(-y) := ⟨rfl, rfl⟩
theorem turn7 (x y : Int) : turnX 7 x y = -(-(-y)) ∧ turnY 7 x y = -x := ⟨rfl, rfl⟩
def mvRc (o tx ty : Int) (r : Rc) : Rc :=
  ⟨min (turnX o r.x0 r.y0 + tx) (turnX o r.x1 r.y1 + tx), min (turnY o r.x0 r.y0 + ty) (turnY o r.x1 r.y1 + ty), max (turnX o r.x0 r.y0 + tx) (turnX o r.x1 r.y1 + tx), max (turnY o r.x0 r.y0 + ty) (turnY o r.x1 r.y1 + ty)⟩
def Rc.hasI (r : Rc) (x y : Int) : Prop := r.x0 ≤ x ∧ x < r.x1 ∧ r.y0 ≤ y ∧ y < r.y1
theorem has_hasI {r : Rc} {i j : Nat} : r.has i j = true ↔ r.hasI ((j : Int) - 40) ((i : Int) - 40) := by rw [Rc.has_iff, Rc.hasI]; omega
/-- Where a unit cell's image comes from. -/
def ivX (o : Int) (u v : Int) : Int := if o = 0 then u else if o = 1 then v else if o = 2 then -u - 1 else if o = 3 then -v - 1 else if o = 4 then u else if o = 5 then v else if o = 6 then -u - 1 else -v - 1
def ivY (o : Int) (u v : Int) : Int := if o = 0 then v else if o = 1 then -u - 1 else if o = 2 then -v - 1 else if o = 3 then u else if o = 4 then -v - 1 else if o = 5 then u else if o = 6 then v else -u - 1
theorem mv_hasI {o : Int} (ho : 0 ≤ o ∧ o ≤ 7) (tx ty : Int) {r : Rc} (h0 : r.x0 < r.x1) (h1 : r.y0 < r.y1) (x y : Int) :
    (mvRc o tx ty r).hasI x y ↔ r.hasI (ivX o (x - tx) (y - ty)) (ivY o (x - tx) (y - ty)) := by
  rcases eight ho with h | h | h | h | h | h | h | h <;> subst h <;> simp only [Rc.hasI, mvRc, ivX, ivY]
  · obtain ⟨a1, a2⟩ := turn0 r.x0 r.y0; obtain ⟨a3, a4⟩ := turn0 r.x1 r.y1; rw [a1, a2, a3, a4]; simp; omega
  · obtain ⟨a1, a2⟩ := turn1 r.x0 r.y0; obtain ⟨a3, a4⟩ := turn1 r.x1 r.y1; rw [a1, a2, a3, a4]; simp; omega
  · obtain ⟨a1, a2⟩ := turn2 r.x0 r.y0; obtain ⟨a3, a4⟩ := turn2 r.x1 r.y1; rw [a1, a2, a3, a4]; simp; omega
  · obtain ⟨a1, a2⟩ := turn3 r.x0 r.y0; obtain ⟨a3, a4⟩ := turn3 r.x1 r.y1; rw [a1, a2, a3, a4]; simp; omega
  · obtain ⟨a1, a2⟩ := turn4 r.x0 r.y0; obtain ⟨a3, a4⟩ := turn4 r.x1 r.y1; rw [a1, a2, a3, a4]; simp; omega
  · obtain ⟨a1, a2⟩ := turn5 r.x0 r.y0; obtain ⟨a3, a4⟩ := turn5 r.x1 r.y1; rw [a1, a2, a3, a4]; simp; omega
  · obtain ⟨a1, a2⟩ := turn6 r.x0 r.y0; obtain ⟨a3, a4⟩ := turn6 r.x1 r.y1; rw [a1, a2, a3, a4]; simp; omega
  · obtain ⟨a1, a2⟩ := turn7 r.x0 r.y0; obtain ⟨a3, a4⟩ := turn7 r.x1 r.y1; rw [a1, a2, a3, a4]; simp; omega
theorem mv_area {o : Int} (ho : 0 ≤ o ∧ o ≤ 7) (tx ty : Int) {r : Rc} (h0 : r.x0 < r.x1) (h1 : r.y0 < r.y1) : areaR (mvRc o tx ty r) = areaR r := by
  have key : ∀ a b c d w h : Int, (b - a = w ∧ d - c = h) ∨ (b - a = h ∧ d - c = w) → (b - a) * (d - c) = w * h := by
    intro a b c d w h H
    rcases H with ⟨p, q⟩ | ⟨p, q⟩
    · rw [p, q]
    · rw [p, q, Int.mul_comm]
  unfold areaR
  apply key
  rcases eight ho with h | h | h | h | h | h | h | h <;> subst h <;> simp only [mvRc]
  · obtain ⟨a1, a2⟩ := turn0 r.x0 r.y0; obtain ⟨a3, a4⟩ := turn0 r.x1 r.y1; rw [a1, a2, a3, a4]; omega
  · obtain ⟨a1, a2⟩ := turn1 r.x0 r.y0; obtain ⟨a3, a4⟩ := turn1 r.x1 r.y1; rw [a1, a2, a3, a4]; omega
  · obtain ⟨a1, a2⟩ := turn2 r.x0 r.y0; obtain ⟨a3, a4⟩ := turn2 r.x1 r.y1; rw [a1, a2, a3, a4]; omega
  · obtain ⟨a1, a2⟩ := turn3 r.x0 r.y0; obtain ⟨a3, a4⟩ := turn3 r.x1 r.y1; rw [a1, a2, a3, a4]; omega
  · obtain ⟨a1, a2⟩ := turn4 r.x0 r.y0; obtain ⟨a3, a4⟩ := turn4 r.x1 r.y1; rw [a1, a2, a3, a4]; omega
  · obtain ⟨a1, a2⟩ := turn5 r.x0 r.y0; obtain ⟨a3, a4⟩ := turn5 r.x1 r.y1; rw [a1, a2, a3, a4]; omega
  · obtain ⟨a1, a2⟩ := turn6 r.x0 r.y0; obtain ⟨a3, a4⟩ := turn6 r.x1 r.y1; rw [a1, a2, a3, a4]; omega
  · obtain ⟨a1, a2⟩ := turn7 r.x0 r.y0; obtain ⟨a3, a4⟩ := turn7 r.x1 r.y1; rw [a1, a2, a3, a4]; omega
theorem ok_lt {r : Rc} (h : r.ok = true) : r.x0 < r.x1 ∧ r.y0 < r.y1 := by
  obtain ⟨h1, h2, h3, h4, h5, h6⟩ := vRect_iff.1 h; exact ⟨h2, h5⟩
/-- A set read at whole numbers, false beyond the chip. -/
def atI (g : Grid) (x y : Int) : Bool := decide (-40 ≤ x) && decide (x < 40) && decide (-40 ≤ y) && decide (y < 40) && g (y + 40).toNat (x + 40).toNat
def mvG (o tx ty : Int) (g : Grid) : Grid := fun i j => atI g (ivX o ((j : Int) - 40 - tx) ((i : Int) - 40 - ty)) (ivY o ((j : Int) - 40 - tx) ((i : Int) - 40 - ty))
theorem atI_bits {rs : List Rc} (h : ∀ r ∈ rs, r.ok = true) (x y : Int) : atI (bitsOf rs) x y = true ↔ ∃ r ∈ rs, r.hasI x y := by
  simp only [atI, Bool.and_eq_true, decide_eq_true_eq, bitsOf, List.any_eq_true]
  constructor
  · rintro ⟨⟨⟨⟨h1, h2⟩, h3⟩, h4⟩, r, hr, hh⟩
    refine ⟨r, hr, ?_⟩
    rw [has_hasI] at hh
    rw [Rc.hasI] at *
    omega
  · rintro ⟨r, hr, hh⟩
    obtain ⟨k1, k2, k3, k4, k5, k6⟩ := vRect_iff.1 (h r hr)
    have hh' := hh
    rw [Rc.hasI] at hh'
    refine ⟨⟨⟨⟨by omega, by omega⟩, by omega⟩, by omega⟩, r, hr, ?_⟩
    rw [has_hasI, Rc.hasI]
    omega
theorem bits_mv {o : Int} (ho : 0 ≤ o ∧ o ≤ 7) (tx ty : Int) {rs : List Rc} (h : ∀ r ∈ rs, r.ok = true) : bitsOf (rs.map (mvRc o tx ty)) = mvG o tx ty (bitsOf rs) := by
  funext i j
  rw [Bool.eq_iff_iff, mvG, atI_bits h, bitsOf, List.any_map, List.any_eq_true]
  constructor
  · rintro ⟨r, hr, hh⟩
    exact ⟨r, hr, (mv_hasI ho tx ty (ok_lt (h r hr)).1 (ok_lt (h r hr)).2 _ _).1 (has_hasI.1 hh)⟩
  · rintro ⟨r, hr, hh⟩
    exact ⟨r, hr, has_hasI.2 ((mv_hasI ho tx ty (ok_lt (h r hr)).1 (ok_lt (h r hr)).2 _ _).2 hh)⟩
theorem atI_congr {g h : Grid} (e : GEq g h) (x y : Int) : atI g x y = atI h x y := by
  unfold atI
  by_cases hx : (-40 ≤ x ∧ x < 40) ∧ (-40 ≤ y ∧ y < 40)
  · rw [e _ _ (by omega) (by omega)]
  · have : (decide (-40 ≤ x) && decide (x < 40) && decide (-40 ≤ y) && decide (y < 40)) = false := by
      rw [Bool.eq_false_iff]; simp; omega
    rw [this]; simp
theorem mvG_congr {o tx ty : Int} {g h : Grid} (e : GEq g h) : mvG o tx ty g = mvG o tx ty h := by funext i j; rw [mvG, mvG, atI_congr e]
end Go.Proofs.Ytldgjocjcbhkmaa
