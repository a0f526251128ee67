/- Plain law on regions: what the Boolean operations, the sizing operations, area and distance have to do with each other. -/
import Derived.Test.YtldgjocjcbhkmaaRegL
import Derived.Test.YtldgjocjcbhkmaaRegD
import Derived.Test.YtldgjocjcbhkmaaRegV
namespace Go.Proofs.Ytldgjocjcbhkmaa

theorem reg_ext {l m : List Rc} (hl : isReg l = true) (hm : isReg m = true) (h : GEq (bitsOf l) (bitsOf m)) : l = m :=
  (isReg_bits hl).symm.trans ((regionL_congr h).trans (isReg_bits hm))
theorem op_reg {a b : List Rc} (op : Int) (ha : isReg a = true) (hb : isReg b = true) : isReg (opR op a b) = true := by
  rw [opR_ok (by rw [ha, hb]; rfl)]; exact isReg_region _
theorem op_bits {a b : List Rc} (op : Int) (ha : isReg a = true) (hb : isReg b = true) : GEq (bitsOf (opR op a b)) (opG op (bitsOf a) (bitsOf b)) := by
  rw [opR_ok (by rw [ha, hb]; rfl)]; exact bits_region _
theorem comp_reg {a : List Rc} (ha : isReg a = true) : isReg (compR a) = true := by
  rw [compR, if_pos ha]; exact isReg_region _
theorem comp_bits {a : List Rc} (ha : isReg a = true) : GEq (bitsOf (compR a)) (notG (bitsOf a)) := by
  rw [compR, if_pos ha]; exact bits_region _
theorem siz_ok {l : List Rc} {k : Int} (h : isReg l = true) (hk : 0 ≤ k ∧ k ≤ 10) : sizB l k = true := by
  rw [sizB, h, Bool.true_and, inR]; simp; omega
theorem sz_reg (F : Int → Grid → Grid) {l : List Rc} {k : Int} (h : isReg l = true) (hk : 0 ≤ k ∧ k ≤ 10) : isReg (szR F k l) = true := by
  rw [szR_ok (siz_ok h hk)]; exact isReg_region _
theorem sz_bits (F : Int → Grid → Grid) {l : List Rc} {k : Int} (h : isReg l = true) (hk : 0 ≤ k ∧ k ≤ 10) : GEq (bitsOf (szR F k l)) (F k (bitsOf l)) := by
  rw [szR_ok (siz_ok h hk)]; exact bits_region _
/-! ### areas -/
theorem area_cnt {l : List Rc} (h : isReg l = true) : areaRg l = (cntG (bitsOf l) : Int) := by rw [areaRg, if_pos h, areaL_reg h]
theorem area_bounds {l : List Rc} (h : isReg l = true) : 0 ≤ areaRg l ∧ areaRg l ≤ 6400 := by
  rw [area_cnt h]
  have := cntG_le (bitsOf l)
  omega
theorem areas_eq {a b : List Rc} (ha : isReg a = true) (hb : isReg b = true) : areaRg (opR 14 a b) + areaRg (opR 8 a b) = areaRg a + areaRg b := by
  rw [area_cnt ha, area_cnt hb, area_cnt (op_reg 14 ha hb), area_cnt (op_reg 8 ha hb), cntG_congr (op_bits 14 ha hb), cntG_congr (op_bits 8 ha hb)]
  have h := cntG_or_and (bitsOf a) (bitsOf b)
  have e1 : opG 14 (bitsOf a) (bitsOf b) = orG (bitsOf a) (bitsOf b) := by funext i j; exact opB_or _ _
  have e2 : opG 8 (bitsOf a) (bitsOf b) = andG (bitsOf a) (bitsOf b) := by funext i j; exact opB_and _ _
  rw [e1, e2]
  omega
/-! ### Boolean laws -/
theorem distrib_eq {a b c : List Rc} (ha : isReg a = true) (hb : isReg b = true) (hc : isReg c = true) : opR 8 c (opR 14 a b) = opR 14 (opR 8 c a) (opR 8 c b) := by
  refine reg_ext (op_reg 8 hc (op_reg 14 ha hb)) (op_reg 14 (op_reg 8 hc ha) (op_reg 8 hc hb)) fun i j hi hj => ?_
  rw [op_bits 8 hc (op_reg 14 ha hb) i j hi hj, op_bits 14 (op_reg 8 hc ha) (op_reg 8 hc hb) i j hi hj, opG, opG, op_bits 14 ha hb i j hi hj, op_bits 8 hc ha i j hi hj, op_bits 8 hc hb i j hi hj, opG, opG, opG]
  simp only [opB_or, opB_and]
  cases bitsOf a i j <;> cases bitsOf b i j <;> cases bitsOf c i j <;> rfl
theorem morgan_eq {a b : List Rc} (ha : isReg a = true) (hb : isReg b = true) : compR (opR 14 a b) = opR 8 (compR a) (compR b) := by
  refine reg_ext (comp_reg (op_reg 14 ha hb)) (op_reg 8 (comp_reg ha) (comp_reg hb)) fun i j hi hj => ?_
  rw [comp_bits (op_reg 14 ha hb) i j hi hj, op_bits 8 (comp_reg ha) (comp_reg hb) i j hi hj, notG, opG, op_bits 14 ha hb i j hi hj, comp_bits ha i j hi hj, comp_bits hb i j hi hj, opG, notG, notG]
  simp only [opB_or, opB_and]
  cases bitsOf a i j <;> cases bitsOf b i j <;> rfl
theorem absorb_eq {a b : List Rc} (ha : isReg a = true) (hb : isReg b = true) : opR 14 (opR 8 a b) (opR 4 a b) = a := by
  refine reg_ext (op_reg 14 (op_reg 8 ha hb) (op_reg 4 ha hb)) ha fun i j hi hj => ?_
  rw [op_bits 14 (op_reg 8 ha hb) (op_reg 4 ha hb) i j hi hj, opG, op_bits 8 ha hb i j hi hj, op_bits 4 ha hb i j hi hj, opG, opG]
  simp only [opB_or, opB_and, opB_diff]
  cases bitsOf a i j <;> cases bitsOf b i j <;> rfl
theorem symm_eq {a b : List Rc} (ha : isReg a = true) (hb : isReg b = true) : opR 14 (opR 4 a b) (opR 4 b a) = opR 6 a b := by
  refine reg_ext (op_reg 14 (op_reg 4 ha hb) (op_reg 4 hb ha)) (op_reg 6 ha hb) fun i j hi hj => ?_
  rw [op_bits 14 (op_reg 4 ha hb) (op_reg 4 hb ha) i j hi hj, op_bits 6 ha hb i j hi hj, opG, op_bits 4 ha hb i j hi hj, op_bits 4 hb ha i j hi hj, opG, opG, opG]
  simp only [opB_or, opB_xor, opB_diff]
  cases bitsOf a i j <;> cases bitsOf b i j <;> rfl
theorem cov_iff {l m : List Rc} (hl : isReg l = true) (hm : isReg m = true) : covR l m = true ↔ sub (bitsOf m) (bitsOf l) := by
  rw [covR, hl, hm, Bool.true_and, Bool.true_and, covG_bits]
theorem cov_union {a b : List Rc} (ha : isReg a = true) (hb : isReg b = true) : covR (opR 14 a b) a = true := by
  rw [cov_iff (op_reg 14 ha hb) ha]
  intro i j hi hj h
  rw [op_bits 14 ha hb i j hi hj, opG, opB_or, h]; rfl
theorem over_len {a b : List Rc} (ha : isReg a = true) (hb : isReg b = true) : overR a b = decide (((opR 8 a b).length : Int) > 0) := by
  rw [overR_reg ha hb, opR_ok (by rw [ha, hb]; rfl)]
  simp
/-! ### sizing -/
theorem sizing_eq {a b : List Rc} {k : Int} (ha : isReg a = true) (hb : isReg b = true) (hk : 0 ≤ k ∧ k ≤ 10) : covR b (growR k a) = covR (shrinkR k b) a := by
  rw [Bool.eq_iff_iff, growR, shrinkR, cov_iff hb (sz_reg growG ha hk), cov_iff (sz_reg shrinkG hb hk) ha]
  have e1 := sz_bits growG ha hk
  have e2 := sz_bits shrinkG hb hk
  constructor
  · intro h
    have h1 : sub (growG k (bitsOf a)) (bitsOf b) := fun i j hi hj x => h i j hi hj (by rw [e1 i j hi hj]; exact x)
    exact fun i j hi hj x => by rw [e2 i j hi hj]; exact grow_shrink.1 h1 i j hi hj x
  · intro h
    have h1 : sub (bitsOf a) (shrinkG k (bitsOf b)) := fun i j hi hj x => by rw [← e2 i j hi hj]; exact h i j hi hj x
    exact fun i j hi hj x => grow_shrink.2 h1 i j hi hj (by rw [← e1 i j hi hj]; exact x)
theorem open_cov {r : List Rc} {k : Int} (h : isReg r = true) (hk : 0 ≤ k ∧ k ≤ 10) : covR r (openR k r) = true := by
  rw [openR, cov_iff h (sz_reg openG h hk)]
  exact fun i j hi hj x => open_sub k _ i j hi hj (by rw [← sz_bits openG h hk i j hi hj]; exact x)
theorem cov_close {r : List Rc} {k : Int} (h : isReg r = true) (hk : 0 ≤ k ∧ k ≤ 10) : covR (closeR k r) r = true := by
  rw [closeR, cov_iff (sz_reg closeG h hk) h]
  exact fun i j hi hj x => by rw [sz_bits closeG h hk i j hi hj]; exact sub_close k _ i j hi hj x
theorem openG_congr {k : Int} {g h : Grid} (e : GEq g h) : openG k g = openG k h := by rw [openG, openG, shrinkG_congr e]
theorem closeG_congr {k : Int} {g h : Grid} (e : GEq g h) : closeG k g = closeG k h := by rw [closeG, closeG, growG_congr e]
theorem open_again {r : List Rc} {k : Int} (h : isReg r = true) (hk : 0 ≤ k ∧ k ≤ 10) : openR k (openR k r) = openR k r := by
  rw [openR, openR]
  refine reg_ext (sz_reg openG (sz_reg openG h hk) hk) (sz_reg openG h hk) ((sz_bits openG (sz_reg openG h hk) hk).trans ?_)
  rw [openG_congr (sz_bits openG h hk)]
  exact (open_open k _).trans (sz_bits openG h hk).symm
theorem close_again {r : List Rc} {k : Int} (h : isReg r = true) (hk : 0 ≤ k ∧ k ≤ 10) : closeR k (closeR k r) = closeR k r := by
  rw [closeR, closeR]
  refine reg_ext (sz_reg closeG (sz_reg closeG h hk) hk) (sz_reg closeG h hk) ((sz_bits closeG (sz_reg closeG h hk) hk).trans ?_)
  rw [closeG_congr (sz_bits closeG h hk)]
  exact (close_close k _).trans (sz_bits closeG h hk).symm
/-! ### distance -/
theorem reg_oks {l : List Rc} (h : isReg l = true) : ∀ r ∈ l, r.ok = true := (isReg_iff.1 h).2.1
theorem meet_bits {l l' m : List Rc} (h : ∀ r ∈ l, r.ok = true) (h' : ∀ r ∈ l', r.ok = true) (hm : ∀ r ∈ m, r.ok = true) (e : GEq (bitsOf l) (bitsOf l')) : meetL l m = meetL l' m := by
  rw [Bool.eq_iff_iff, meetL_iff h hm, meetL_iff h' hm]
  constructor
  · rintro ⟨i, hi, j, hj, p, q⟩; exact ⟨i, hi, j, hj, by rw [← e i j hi hj]; exact p, q⟩
  · rintro ⟨i, hi, j, hj, p, q⟩; exact ⟨i, hi, j, hj, by rw [e i j hi hj]; exact p, q⟩
theorem distance_eq {a b : List Rc} {k : Int} (ha : isReg a = true) (hb : isReg b = true) (la : 0 < a.length) (lb : 0 < b.length) (hk : 0 ≤ k ∧ k ≤ 10) : overR (growR k a) b = decide (distR a b ≤ k) := by
  have e : growR k a = growL k a := by rw [growR, szR_ok (siz_ok ha hk), growL_eq hk.1 (reg_oks ha)]
  rw [overR, growR, sz_reg growG ha hk, hb, Bool.true_and, Bool.true_and, ← growR, e, dist_grow hk.1 (by omega) (reg_oks ha) (reg_oks hb), distR, ha, hb, if_pos (by simp [la, lb])]
/-! ### regions of lists -/
theorem bits_perm {l m : List Rc} (h : ∀ r, r ∈ l ↔ r ∈ m) : bitsOf l = bitsOf m := by
  funext i j
  rw [bitsOf, bitsOf, Bool.eq_iff_iff, List.any_eq_true, List.any_eq_true]
  constructor
  · rintro ⟨r, hr, x⟩; exact ⟨r, (h r).1 hr, x⟩
  · rintro ⟨r, hr, x⟩; exact ⟨r, (h r).2 hr, x⟩
theorem regionOf_reverse (l : List Rc) : regionOfR l.reverse = regionOfR l ∧ validL l.reverse = validL l := by
  have e : bitsOf l.reverse = bitsOf l := bits_perm fun r => List.mem_reverse
  have v : validL l.reverse = validL l := by simp [validL]
  rw [regionOfR, regionOfR, v, e]
  exact ⟨rfl, rfl⟩
/-- The union of the first regions. -/
theorem union_step {l : List Rc} {i : Nat} (h : i < l.length) (hok : ∀ r ∈ l, r.ok = true) : opR 14 (regionL (bitsOf (l.take i))) [l[i]] = regionL (bitsOf (l.take (i + 1))) := by
  have h1 := isReg_region (bitsOf (l.take i))
  have h2 := isReg_single (hok l[i] (List.getElem_mem h))
  rw [opR_ok (by rw [h1, h2]; rfl)]
  refine regionL_congr fun a c ha hc => ?_
  rw [opG, opB_or, bits_region _ a c ha hc, bits_take h]
  simp [bitsOf]
theorem region_none : regionL (bitsOf []) = [] := regionL_nil.2 fun _ _ _ _ => rfl
theorem region_take_len (l : List Rc) : (regionL (bitsOf l)).length ≤ 2000000 := region_lenN _
end Go.Proofs.Ytldgjocjcbhkmaa
