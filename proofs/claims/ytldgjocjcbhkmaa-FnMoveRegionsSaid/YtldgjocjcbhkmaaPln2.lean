/- Plain law on regions: moving, squares. -/
import Derived.Test.YtldgjocjcbhkmaaPln
import Derived.Test.YtldgjocjcbhkmaaRegM
import Derived.Test.YtldgjocjcbhkmaaRegB
import Derived.Test.YtldgjocjcbhkmaaRegQ
namespace Go.Proofs.Ytldgjocjcbhkmaa

theorem mov_parts {o tx ty : Int} {l : List Rc} (h : movB o tx ty l = true) : (0 ≤ o ∧ o ≤ 7) ∧ isReg l = true ∧ (∀ r ∈ l, (mvRc o tx ty r).ok = true) ∧ vTr o tx ty = true := by
  simp only [movB, Bool.and_eq_true] at h
  obtain ⟨⟨h1, h2⟩, h3⟩ := h
  exact ⟨(vTr_iff.1 h1).1, h2, fun r hr => List.all_eq_true.1 h3 r hr, h1⟩
theorem mov_eq {o tx ty : Int} {l : List Rc} (h : movB o tx ty l = true) : movR o tx ty l = regionL (mvG o tx ty (bitsOf l)) := by
  obtain ⟨ho, hr, hm, ht⟩ := mov_parts h
  rw [(movR_ok (by rw [ht, hr]; rfl)).1, imgR, if_pos (show imgOk o tx ty l = true from List.all_eq_true.2 hm), bits_mv ho tx ty (reg_oks hr)]
theorem mov_reg {o tx ty : Int} {l : List Rc} (h : movB o tx ty l = true) : isReg (movR o tx ty l) = true := by rw [mov_eq h]; exact isReg_region _
theorem mov_bits {o tx ty : Int} {l : List Rc} (h : movB o tx ty l = true) : GEq (bitsOf (movR o tx ty l)) (mvG o tx ty (bitsOf l)) := by rw [mov_eq h]; exact bits_region _
theorem ok_of {r : Rc} (h0 : -40 ≤ r.x0) (h1 : r.x0 < r.x1) (h2 : r.x1 ≤ 40) (h3 : -40 ≤ r.y0) (h4 : r.y0 < r.y1) (h5 : r.y1 ≤ 40) : r.ok = true := vRect_iff.2 ⟨h0, h1, h2, h3, h4, h5⟩
theorem mv_lt {o : Int} (ho : 0 ≤ o ∧ o ≤ 7) (tx ty : Int) {r : Rc} (h0 : r.x0 < r.x1) (h1 : r.y0 < r.y1) : (mvRc o tx ty r).x0 < (mvRc o tx ty r).x1 ∧ (mvRc o tx ty r).y0 < (mvRc o tx ty r).y1 := by
  rcases eight ho with h | h | h | h | h | h | h | h <;> subst h <;> simp only [mvRc]
  · obtain ⟨a1, a2⟩ := turn0 r.x0 r.y0; obtain ⟨a3, a4⟩ := turn0 r.x1 r.y1; rw [a1, a2, a3, a4]; omega
  · obtain ⟨a1, a2⟩ := turn1 r.x0 r.y0; obtain ⟨a3, a4⟩ := turn1 r.x1 r.y1; rw [a1, a2, a3, a4]; omega
  · obtain ⟨a1, a2⟩ := turn2 r.x0 r.y0; obtain ⟨a3, a4⟩ := turn2 r.x1 r.y1; rw [a1, a2, a3, a4]; omega
  · obtain ⟨a1, a2⟩ := turn3 r.x0 r.y0; obtain ⟨a3, a4⟩ := turn3 r.x1 r.y1; rw [a1, a2, a3, a4]; omega
  · obtain ⟨a1, a2⟩ := turn4 r.x0 r.y0; obtain ⟨a3, a4⟩ := turn4 r.x1 r.y1; rw [a1, a2, a3, a4]; omega
  · obtain ⟨a1, a2⟩ := turn5 r.x0 r.y0; obtain ⟨a3, a4⟩ := turn5 r.x1 r.y1; rw [a1, a2, a3, a4]; omega
  · obtain ⟨a1, a2⟩ := turn6 r.x0 r.y0; obtain ⟨a3, a4⟩ := turn6 r.x1 r.y1; rw [a1, a2, a3, a4]; omega
  · obtain ⟨a1, a2⟩ := turn7 r.x0 r.y0; obtain ⟨a3, a4⟩ := turn7 r.x1 r.y1; rw [a1, a2, a3, a4]; omega
theorem ok_bounds {r : Rc} (h : r.ok = true) : -40 ≤ r.x0 ∧ r.x0 < r.x1 ∧ r.x1 ≤ 40 ∧ -40 ≤ r.y0 ∧ r.y0 < r.y1 ∧ r.y1 ≤ 40 := vRect_iff.1 h
/-- The image of a place of a list whose images lie on the chip lies on the chip. -/
theorem on_chip {o tx ty : Int} (ho : 0 ≤ o ∧ o ≤ 7) {l : List Rc} (hok : ∀ r ∈ l, r.ok = true) (hm : ∀ r ∈ l, (mvRc o tx ty r).ok = true) {x y : Int}
    (h : ∃ r ∈ l, r.hasI (ivX o (x - tx) (y - ty)) (ivY o (x - tx) (y - ty))) : -40 ≤ x ∧ x < 40 ∧ -40 ≤ y ∧ y < 40 := by
  obtain ⟨r, hr, hh⟩ := h
  obtain ⟨l1, l2⟩ := ok_lt (hok r hr)
  have h2 := (mv_hasI ho tx ty l1 l2 x y).2 hh
  have h3 := ok_bounds (hm r hr)
  rw [Rc.hasI] at h2
  omega
/-- If all that a list covers is covered by lists whose images lie on the chip, its images do. -/
theorem img_within {o tx ty : Int} (ho : 0 ≤ o ∧ o ≤ 7) {l m : List Rc} (hok : ∀ r ∈ l, r.ok = true) (hok' : ∀ r ∈ m, r.ok = true) (hm : ∀ r ∈ m, (mvRc o tx ty r).ok = true)
    (hs : ∀ x y, (∃ r ∈ l, r.hasI x y) → ∃ r ∈ m, r.hasI x y) : ∀ r ∈ l, (mvRc o tx ty r).ok = true := by
  intro r hr
  obtain ⟨l1, l2⟩ := ok_lt (hok r hr)
  obtain ⟨m1, m2⟩ := mv_lt ho tx ty l1 l2
  have key : ∀ x y, (mvRc o tx ty r).hasI x y → -40 ≤ x ∧ x < 40 ∧ -40 ≤ y ∧ y < 40 := fun x y hh =>
    on_chip ho hok' hm (hs _ _ ⟨r, hr, (mv_hasI ho tx ty l1 l2 x y).1 hh⟩)
  have k1 := key (mvRc o tx ty r).x0 (mvRc o tx ty r).y0 (by rw [Rc.hasI]; omega)
  have k2 := key ((mvRc o tx ty r).x1 - 1) ((mvRc o tx ty r).y1 - 1) (by rw [Rc.hasI]; omega)
  exact ok_of (by omega) m1 (by omega) (by omega) m2 (by omega)
theorem reg_hasI {l : List Rc} (h : ∀ r ∈ l, r.ok = true) {x y : Int} : (∃ r ∈ l, r.hasI x y) ↔ atI (bitsOf l) x y = true := (atI_bits h x y).symm
theorem atI_or (g h : Grid) (x y : Int) : atI (opG 14 g h) x y = (atI g x y || atI h x y) := by
  simp only [atI, opG, opB_or]
  cases decide (-40 ≤ x) <;> cases decide (x < 40) <;> cases decide (-40 ≤ y) <;> cases decide (y < 40) <;> simp
theorem union_img {o tx ty : Int} {a b : List Rc} (ha : movB o tx ty a = true) (hb : movB o tx ty b = true) : movB o tx ty (opR 14 a b) = true := by
  obtain ⟨ho, ra, ma, ht⟩ := mov_parts ha
  obtain ⟨_, rb, mb, _⟩ := mov_parts hb
  have ru := op_reg 14 ra rb
  rw [movB, ht, ru, Bool.true_and, Bool.true_and]
  refine List.all_eq_true.2 (img_within (m := a ++ b) ho (reg_oks ru) (fun r hr => ?_) (fun r hr => ?_) fun x y h => ?_)
  · rcases List.mem_append.1 hr with h | h
    · exact reg_oks ra r h
    · exact reg_oks rb r h
  · rcases List.mem_append.1 hr with h | h
    · exact ma r h
    · exact mb r h
  · rw [reg_hasI (reg_oks ru), atI_congr (op_bits 14 ra rb), atI_or, Bool.or_eq_true] at h
    rcases h with h | h
    · obtain ⟨r, hr, hh⟩ := (reg_hasI (reg_oks ra)).2 h; exact ⟨r, List.mem_append.2 (.inl hr), hh⟩
    · obtain ⟨r, hr, hh⟩ := (reg_hasI (reg_oks rb)).2 h; exact ⟨r, List.mem_append.2 (.inr hr), hh⟩
theorem mov_union {o tx ty : Int} {a b : List Rc} (ha : movB o tx ty a = true) (hb : movB o tx ty b = true) : movR o tx ty (opR 14 a b) = opR 14 (movR o tx ty a) (movR o tx ty b) := by
  obtain ⟨ho, ra, ma, ht⟩ := mov_parts ha
  obtain ⟨_, rb, mb, _⟩ := mov_parts hb
  refine reg_ext (mov_reg (union_img ha hb)) (op_reg 14 (mov_reg ha) (mov_reg hb)) fun i j hi hj => ?_
  rw [mov_bits (union_img ha hb) i j hi hj, op_bits 14 (mov_reg ha) (mov_reg hb) i j hi hj, opG, mov_bits ha i j hi hj, mov_bits hb i j hi hj, mvG_congr (op_bits 14 ra rb), opB_or, mvG, atI_or]
  rfl
/-! ### the area of an image -/
def ivO (o : Int) : Int := if o = 1 then 3 else if o = 3 then 1 else o
def ivTx (o tx ty : Int) : Int := if o = 0 then -tx else if o = 1 then -ty else if o = 2 then tx else if o = 3 then ty else if o = 4 then -tx else if o = 5 then -ty else if o = 6 then tx else ty
def ivTy (o tx ty : Int) : Int := if o = 0 then -ty else if o = 1 then tx else if o = 2 then ty else if o = 3 then -tx else if o = 4 then ty else if o = 5 then -tx else if o = 6 then -ty else tx
theorem iv_iv {o : Int} (ho : 0 ≤ o ∧ o ≤ 7) (tx ty x y : Int) :
    ivX o (ivX (ivO o) (x - ivTx o tx ty) (y - ivTy o tx ty) - tx) (ivY (ivO o) (x - ivTx o tx ty) (y - ivTy o tx ty) - ty) = x ∧
    ivY o (ivX (ivO o) (x - ivTx o tx ty) (y - ivTy o tx ty) - tx) (ivY (ivO o) (x - ivTx o tx ty) (y - ivTy o tx ty) - ty) = y := by
  rcases eight ho with h | h | h | h | h | h | h | h <;> subst h <;> simp [ivX, ivY, ivO, ivTx, ivTy] <;> omega
theorem iv_range {o : Int} (ho : 0 ≤ o ∧ o ≤ 7) : 0 ≤ ivO o ∧ ivO o ≤ 7 := by
  rcases eight ho with h | h | h | h | h | h | h | h <;> subst h <;> simp [ivO]
theorem mv_back {o tx ty : Int} {l : List Rc} (h : movB o tx ty l = true) : GEq (mvG (ivO o) (ivTx o tx ty) (ivTy o tx ty) (bitsOf (movR o tx ty l))) (bitsOf l) := by
  obtain ⟨ho, hr, hm, _⟩ := mov_parts h
  intro i j hi hj
  obtain ⟨e1, e2⟩ := iv_iv ho tx ty ((j : Int) - 40) ((i : Int) - 40)
  rw [mvG, atI_congr (mov_bits h)]
  generalize hp : ivX (ivO o) ((j : Int) - 40 - ivTx o tx ty) ((i : Int) - 40 - ivTy o tx ty) = p at *
  generalize hq : ivY (ivO o) ((j : Int) - 40 - ivTx o tx ty) ((i : Int) - 40 - ivTy o tx ty) = q at *
  have here : atI (bitsOf l) ((j : Int) - 40) ((i : Int) - 40) = bitsOf l i j := by
    rw [atI, show ((i : Int) - 40 + 40).toNat = i from by omega, show ((j : Int) - 40 + 40).toNat = j from by omega]
    simp
    omega
  by_cases hin : -40 ≤ p ∧ p < 40 ∧ -40 ≤ q ∧ q < 40
  · have c1 : (((p + 40).toNat : Int)) = p + 40 := by omega
    have c2 : (((q + 40).toNat : Int)) = q + 40 := by omega
    rw [atI, mvG, c1, c2, show p + 40 - 40 - tx = p - tx from by omega, show q + 40 - 40 - ty = q - ty from by omega, e1, e2, here]
    simp only [hin.1, hin.2.1, hin.2.2.1, hin.2.2.2, decide_true, Bool.true_and]
  · have hf : atI (mvG o tx ty (bitsOf l)) p q = false := by
      rw [Bool.eq_false_iff]
      intro hh
      simp only [atI, Bool.and_eq_true, decide_eq_true_eq] at hh
      omega
    rw [hf, eq_comm, Bool.eq_false_iff]
    intro hh
    rw [← here] at hh
    obtain ⟨r, hr1, hr2⟩ := (reg_hasI (reg_oks hr)).2 hh
    rw [← e1, ← e2] at hr2
    exact hin (on_chip ho (reg_oks hr) hm ⟨r, hr1, hr2⟩)
theorem areaL_map {o tx ty : Int} (ho : 0 ≤ o ∧ o ≤ 7) : ∀ {l : List Rc}, (∀ r ∈ l, r.ok = true) → areaL (l.map (mvRc o tx ty)) = areaL l
  | [], _ => rfl
  | r :: l, h => by
    obtain ⟨l1, l2⟩ := ok_lt (h r (by simp))
    rw [List.map_cons, areaL_cons, areaL_cons, mv_area ho tx ty l1 l2, areaL_map ho fun q hq => h q (by simp [hq])]
theorem mov_area {o tx ty : Int} {l : List Rc} (h : movB o tx ty l = true) : areaRg (movR o tx ty l) = areaRg l := by
  obtain ⟨ho, hr, hm, _⟩ := mov_parts h
  have hr2 := mov_reg h
  have one : (cntG (bitsOf (movR o tx ty l)) : Int) ≤ cntG (bitsOf l) := by
    have h1 : ∀ r ∈ l.map (mvRc o tx ty), r.ok = true := by
      intro r hq
      obtain ⟨q, hq1, rfl⟩ := List.mem_map.1 hq
      exact hm q hq1
    have h2 := cnt_le_area h1
    rw [areaL_map ho (reg_oks hr), areaL_reg hr, bits_mv ho tx ty (reg_oks hr), ← cntG_congr (mov_bits h)] at h2
    exact h2
  have ho' := iv_range ho
  have two : (cntG (bitsOf l) : Int) ≤ cntG (bitsOf (movR o tx ty l)) := by
    have hin : ∀ r ∈ (movR o tx ty l).map (mvRc (ivO o) (ivTx o tx ty) (ivTy o tx ty)), r.ok = true := by
      intro r hq
      obtain ⟨q, hq1, rfl⟩ := List.mem_map.1 hq
      obtain ⟨l1, l2⟩ := ok_lt (reg_oks hr2 q hq1)
      obtain ⟨m1, m2⟩ := mv_lt ho' (ivTx o tx ty) (ivTy o tx ty) l1 l2
      have key : ∀ x y, (mvRc (ivO o) (ivTx o tx ty) (ivTy o tx ty) q).hasI x y → -40 ≤ x ∧ x < 40 ∧ -40 ≤ y ∧ y < 40 := by
        intro x y hh
        have h3 := (mv_hasI ho' (ivTx o tx ty) (ivTy o tx ty) l1 l2 x y).1 hh
        have h4 : atI (bitsOf (movR o tx ty l)) (ivX (ivO o) (x - ivTx o tx ty) (y - ivTy o tx ty)) (ivY (ivO o) (x - ivTx o tx ty) (y - ivTy o tx ty)) = true := (reg_hasI (reg_oks hr2)).1 ⟨q, hq1, h3⟩
        obtain ⟨e1, e2⟩ := iv_iv ho tx ty x y
        rw [atI_congr (mov_bits h)] at h4
        simp only [atI, mvG, Bool.and_eq_true, decide_eq_true_eq] at h4
        obtain ⟨⟨⟨⟨a1, a2⟩, a3⟩, a4⟩, ⟨⟨⟨b1, b2⟩, b3⟩, b4⟩, _⟩ := h4
        generalize ivX (ivO o) (x - ivTx o tx ty) (y - ivTy o tx ty) = p at *
        generalize ivY (ivO o) (x - ivTx o tx ty) (y - ivTy o tx ty) = q at *
        have c1 : (((p + 40).toNat : Int)) - 40 - tx = p - tx := by omega
        have c2 : (((q + 40).toNat : Int)) - 40 - ty = q - ty := by omega
        rw [c1, c2] at b1 b2 b3 b4
        rw [e1] at b1 b2
        rw [e2] at b3 b4
        exact ⟨b1, b2, b3, b4⟩
      have k1 := key _ _ (show (mvRc (ivO o) (ivTx o tx ty) (ivTy o tx ty) q).hasI (mvRc (ivO o) (ivTx o tx ty) (ivTy o tx ty) q).x0 (mvRc (ivO o) (ivTx o tx ty) (ivTy o tx ty) q).y0 by rw [Rc.hasI]; omega)
      have k2 := key _ _ (show (mvRc (ivO o) (ivTx o tx ty) (ivTy o tx ty) q).hasI ((mvRc (ivO o) (ivTx o tx ty) (ivTy o tx ty) q).x1 - 1) ((mvRc (ivO o) (ivTx o tx ty) (ivTy o tx ty) q).y1 - 1) by rw [Rc.hasI]; omega)
      exact ok_of (by omega) m1 (by omega) (by omega) m2 (by omega)
    have h2 := cnt_le_area hin
    rw [areaL_map ho' (reg_oks hr2), areaL_reg hr2, bits_mv ho' _ _ (reg_oks hr2), cntG_congr (mv_back h)] at h2
    exact h2
  rw [area_cnt hr, area_cnt hr2]
  omega
/-! ### squares -/
theorem fold_bx_le : ∀ (l : List Rc) (b : Rc), (l.foldl bx b).x0 ≤ b.x0 ∧ (l.foldl bx b).y0 ≤ b.y0 ∧ b.x1 ≤ (l.foldl bx b).x1 ∧ b.y1 ≤ (l.foldl bx b).y1 ∧
    ∀ r ∈ l, (l.foldl bx b).x0 ≤ r.x0 ∧ (l.foldl bx b).y0 ≤ r.y0 ∧ r.x1 ≤ (l.foldl bx b).x1 ∧ r.y1 ≤ (l.foldl bx b).y1
  | [], b => ⟨Int.le_refl _, Int.le_refl _, Int.le_refl _, Int.le_refl _, fun r hr => by simp at hr⟩
  | q :: l, b => by
    obtain ⟨h0, h1, h2, h3, h⟩ := fold_bx_le l (bx b q)
    rw [List.foldl_cons]
    have e : (bx b q).x0 = min b.x0 q.x0 ∧ (bx b q).y0 = min b.y0 q.y0 ∧ (bx b q).x1 = max b.x1 q.x1 ∧ (bx b q).y1 = max b.y1 q.y1 := ⟨rfl, rfl, rfl, rfl⟩
    refine ⟨by omega, by omega, by omega, by omega, fun r hr => ?_⟩
    rcases List.mem_cons.1 hr with rfl | hr
    · omega
    · exact h r hr
theorem boxL_le {l : List Rc} {r : Rc} (hr : r ∈ l) : (boxL l).x0 ≤ r.x0 ∧ (boxL l).y0 ≤ r.y0 ∧ r.x1 ≤ (boxL l).x1 ∧ r.y1 ≤ (boxL l).y1 := by
  cases l with
  | nil => simp at hr
  | cons q l => exact (fold_bx_le (q :: l) q).2.2.2.2 r hr
theorem squares_eq {l : List Rc} {k : Int} (h : isReg l = true) (h0 : 0 ≤ k) (h1 : 2 * k + 1 ≤ 10) (b0 : -40 + k ≤ (boxL l).x0) (b1 : -40 + k ≤ (boxL l).y0) (b2 : (boxL l).x1 ≤ 40 - k) (b3 : (boxL l).y1 ≤ 40 - k) : sqR (2 * k + 1) l = openR k l := by
  obtain ⟨n, rfl⟩ : ∃ n : Nat, k = n := ⟨k.toNat, by omega⟩
  rw [openR, szR_ok (siz_ok h ⟨h0, by omega⟩), sqR, siz_ok h ⟨by omega, h1⟩, if_pos (by simp; omega), show (2 * (n : Int) + 1).toNat = 2 * n + 1 from by omega]
  refine regionL_congr (squares_open fun i j hi hj hb => ?_)
  obtain ⟨r, hr, hh⟩ := List.any_eq_true.1 hb
  have hx := boxL_le hr
  rw [Rc.has_iff] at hh
  omega
end Go.Proofs.Ytldgjocjcbhkmaa
