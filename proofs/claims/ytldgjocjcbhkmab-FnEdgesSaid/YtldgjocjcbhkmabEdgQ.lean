/- Plain law, no program in sight: the number of edges, and what the vertical ones tell. No condition. -/
import Derived.Test.YtldgjocjcbhkmabEdgP
namespace Go.Proofs.Ytldgjocjcbhkmab

/-! ### the number of edges -/
theorem len_lenK : ∀ l : List (Nat × Nat × Int), (∀ q ∈ l, q.1 < q.2.1) → l.length ≤ lenK l
  | [], _ => Nat.zero_le _
  | q :: l, h => by
    have ih := len_lenK l fun r hr => h r (by simp [hr])
    have hq := h q (by simp)
    simp only [lenK, List.map_cons, List.sum_cons, List.length_cons] at ih ⊢
    omega
theorem edgesTo_num (g : Grid) : ∀ n, (edgesTo g n).length ≤ sumTo (fun n => cntK (kH g n) 80 + cntK (kV g n) 80) n
  | 0 => Nat.zero_le _
  | n + 1 => by
    have ih := edgesTo_num g n
    have h1 := len_lenK _ fun q hq => (runsAt_mem (kH g n) 80 0 (by omega) q hq).1
    have h2 := len_lenK _ fun q hq => (runsAt_mem (kV g n) 80 0 (by omega) q hq).1
    rw [lenK_all] at h1 h2
    rw [edgesTo, List.length_append, edgesN, List.length_append, List.length_map, List.length_map, sumTo]
    omega
theorem turns_even (f : Int → Bool) (h0 : f (-1) = false) : ∀ m : Nat, sumTo (fun n => b2n (decide (stepV (f ((n : Int) - 1)) (f n) ≠ 0))) m % 2 = b2n (f ((m : Int) - 1))
  | 0 => by
    rw [show ((0 : Nat) : Int) - 1 = -1 from by omega, h0]
    rfl
  | m + 1 => by
    have ih := turns_even f h0 m
    rw [sumTo, Nat.add_mod, ih, show ((m + 1 : Nat) : Int) - 1 = (m : Int) from by omega]
    cases f ((m : Int) - 1) <;> cases f (m : Int) <;> rfl
theorem turns_le (f : Int → Bool) (N : Nat) (hN : N % 2 = 0) (h0 : f (-1) = false) (h1 : f (N : Int) = false) : sumTo (fun n => b2n (decide (stepV (f ((n : Int) - 1)) (f n) ≠ 0))) (N + 1) ≤ N := by
  have he := turns_even f h0 (N + 1)
  have hl : sumTo (fun n => b2n (decide (stepV (f ((n : Int) - 1)) (f n) ≠ 0))) (N + 1) ≤ (N + 1) * 1 := sumTo_le (N + 1) fun n _ => b2n_le _
  rw [show ((N + 1 : Nat) : Int) - 1 = (N : Int) from by omega, h1] at he
  have z : b2n false = 0 := rfl
  rw [z] at he
  omega
theorem lines_le (H V : Nat → Nat → Nat) (N : Nat) (hH : ∀ i, i < N → sumTo (fun n => H n i) (N + 1) ≤ N) (hV : ∀ i, i < N → sumTo (fun n => V n i) (N + 1) ≤ N) :
    sumTo (fun n => sumTo (fun i => H n i) N + sumTo (fun i => V n i) N) (N + 1) ≤ N * N + N * N := by
  rw [sumTo_add, sumTo_swap (fun n i => H n i) N (N + 1), sumTo_swap (fun n i => V n i) N (N + 1)]
  exact Nat.add_le_add (sumTo_le N hH) (sumTo_le N hV)
theorem linesN_le (g : Grid) : linesN g ≤ 80 * 80 + 80 * 80 := by
  refine lines_le (fun n i => b2n (decide (kH g n i ≠ 0))) (fun n i => b2n (decide (kV g n i ≠ 0))) 80 (fun i _ => ?_) (fun i _ => ?_)
  · have h := turns_le (fun z => hasI g ((i : Int) - 40) (z - 40)) 80 rfl (hasI_out (by omega)) (hasI_out (by omega))
    refine Nat.le_trans (Nat.le_of_eq (sumTo_congr 81 fun n _ => ?_)) h
    rw [show (n : Int) - 1 - 40 = (n : Int) - 40 - 1 from by omega]
    rfl
  · have h := turns_le (fun z => hasI g (z - 40) ((i : Int) - 40)) 80 rfl (hasI_out (by omega)) (hasI_out (by omega))
    refine Nat.le_trans (Nat.le_of_eq (sumTo_congr 81 fun n _ => ?_)) h
    rw [show (n : Int) - 1 - 40 = (n : Int) - 40 - 1 from by omega]
    rfl
theorem edgesL_max (g : Grid) : (edgesL g).length ≤ 12800 := Nat.le_trans (edgesTo_num g 81) (linesN_le g)
/-! ### vertical edges -/
def hitV (r : Rc) (y x : Nat) : Bool := decide (r.x0 = (x : Int) - 40) && (decide (min r.y0 r.y1 ≤ (y : Int) - 40) && decide ((y : Int) - 40 < max r.y0 r.y1))
def hits (l : List Rc) : Grid := fun y x => l.foldr (fun r b => hitV r y x != b) false
theorem hits_append (l m : List Rc) (y x : Nat) : hits (l ++ m) y x = (hits l y x != hits m y x) := by
  induction l with
  | nil => simp [hits]
  | cons r l ih =>
    simp only [hits, List.cons_append, List.foldr_cons] at ih ⊢
    rw [ih]
    cases hitV r y x <;> simp
theorem hits_perm {l m : List Rc} (h : l.Perm m) (y x : Nat) : hits l y x = hits m y x := by
  induction h with
  | nil => rfl
  | cons r _ ih => simp only [hits, List.foldr_cons] at ih ⊢; rw [ih]
  | swap r s l =>
    simp only [hits, List.foldr_cons]
    cases hitV r y x <;> cases hitV s y x <;> simp
  | trans _ _ h1 h2 => exact h1.trans h2
theorem hitV_mkH (n : Nat) (q : Nat × Nat × Int) (y x : Nat) : hitV (mkH n q) y x = false := by
  rw [Bool.eq_false_iff]
  unfold hitV mkH
  intro h
  split at h <;> simp only [Bool.and_eq_true, decide_eq_true_eq] at h <;> omega
theorem hits_mkH (n : Nat) : ∀ (l : List (Nat × Nat × Int)) (y x : Nat), hits (l.map (mkH n)) y x = false
  | [], _, _ => rfl
  | q :: l, y, x => by
    have ih := hits_mkH n l y x
    simp only [hits, List.map_cons, List.foldr_cons] at ih ⊢
    rw [ih, hitV_mkH]
    rfl
theorem hitV_mkV (n : Nat) {q : Nat × Nat × Int} (h : q.1 < q.2.1) (y x : Nat) : hitV (mkV n q) y x = (decide (x = n) && (decide (q.1 ≤ y) && decide (y < q.2.1))) := by
  rw [Bool.eq_iff_iff]
  unfold hitV mkV
  split <;> simp only [Bool.and_eq_true, decide_eq_true_eq] <;> omega
theorem hits_runs (K : Nat → Int) (n : Nat) : ∀ fuel i, 80 ≤ fuel + i → ∀ y x, y < 80 → hits ((runsAt K i).map (mkV n)) y x = (decide (x = n) && (decide (i ≤ y) && decide (K y ≠ 0)))
  | 0, i, h, y, x, hy => by
    rw [runsAt_end K (by omega)]
    have : decide (i ≤ y) = false := by simp; omega
    simp [hits, this]
  | fuel + 1, i, h, y, x, hy => by
    by_cases h8 : i < 80
    · obtain ⟨g1, g2, _⟩ := endR2_spec K i
      have ih := hits_runs K n fuel (endR2 K i) (by omega) y x hy
      rw [runsAt_step K h8, List.map_append, hits_append, ih]
      have hin : i ≤ y → y < endR2 K i → K y = K i := fun a b => by
        by_cases e : y = i
        · rw [e]
        · exact (g2 y (by omega) b).2
      by_cases hz : K i = 0
      · rw [if_neg (by simp [hz])]
        simp only [List.map_nil, hits, List.foldr_nil, Bool.false_bne]
        congr 1
        rw [Bool.eq_iff_iff]
        simp only [Bool.and_eq_true, decide_eq_true_eq]
        constructor
        · intro ⟨a, b⟩; exact ⟨by omega, b⟩
        · intro ⟨a, b⟩
          refine ⟨?_, b⟩
          by_cases e : endR2 K i ≤ y
          · exact e
          · exact absurd (hin a (by omega)) (by rw [hz]; exact b)
      · rw [if_pos hz]
        simp only [List.map_cons, List.map_nil, hits, List.foldr_cons, List.foldr_nil, Bool.bne_false]
        rw [hitV_mkV n g1]
        simp only
        by_cases hx : x = n
        · by_cases ha : i ≤ y
          · by_cases hb : y < endR2 K i
            · have e1 := hin ha hb
              have e2 : ¬ endR2 K i ≤ y := by omega
              simp [hx, ha, hb, e1, e2, hz]
            · have e2 : endR2 K i ≤ y := by omega
              simp [hx, ha, hb, e2]
          · have e2 : ¬ endR2 K i ≤ y := by omega
            simp [ha, e2]
        · simp [hx]
    · rw [runsAt_end K (by omega)]
      have : decide (i ≤ y) = false := by simp; omega
      simp [hits, this]
theorem hits_to (g : Grid) {y x : Nat} (hy : y < 80) : ∀ n, hits (edgesTo g n) y x = (decide (x < n) && decide (kV g x y ≠ 0))
  | 0 => by simp [edgesTo, hits]
  | n + 1 => by
    rw [edgesTo, edgesN, hits_append, hits_append, hits_to g hy n, hits_mkH, hits_runs _ n 80 0 (by omega) y x hy, Bool.false_bne]
    by_cases hx : x = n
    · subst hx
      simp
    · by_cases hl : x < n
      · have : x < n + 1 := by omega
        simp [hx, hl, this]
      · have : ¬ x < n + 1 := by omega
        simp [hx, hl, this]
theorem stepV_bne (p q : Bool) : decide (stepV p q ≠ 0) = (p != q) := by cases p <;> cases q <;> rfl
theorem hits_edges (g : Grid) {y x : Nat} (hy : y < 80) (hx : x < 80) : hits (edgesL g) y x = (hasI g ((x : Int) - 40 - 1) ((y : Int) - 40) != g y x) := by
  have h1 : x < 81 := by omega
  rw [edgesL, hits_to g hy, kV, stepV_bne]
  have e : hasI g ((x : Int) - 40) ((y : Int) - 40) = g y x := by
    unfold hasI
    have : (inR ((x : Int) - 40) (-40) 39 && inR ((y : Int) - 40) (-40) 39) = true := by
      simp only [inR, Bool.and_eq_true, decide_eq_true_eq]
      omega
    rw [this, Bool.true_and, show ((y : Int) - 40 + 40).toNat = y from by omega, show ((x : Int) - 40 + 40).toNat = x from by omega]
  rw [e]
  simp [h1]
theorem hits_first (g : Grid) {y : Nat} (hy : y < 80) : hits (edgesL g) y 0 = g y 0 := by
  rw [hits_edges g hy (by omega), hasI_out (.inl (by omega)), Bool.false_bne]
theorem hits_next (g : Grid) {y x : Nat} (hy : y < 80) (hx : x + 1 < 80) : (hits (edgesL g) y (x + 1) != g y x) = g y (x + 1) := by
  have e : hasI g (((x + 1 : Nat) : Int) - 40 - 1) ((y : Int) - 40) = g y x := by
    unfold hasI
    have : (inR (((x + 1 : Nat) : Int) - 40 - 1) (-40) 39 && inR ((y : Int) - 40) (-40) 39) = true := by
      simp only [inR, Bool.and_eq_true, decide_eq_true_eq]
      omega
    rw [this, Bool.true_and, show ((y : Int) - 40 + 40).toNat = y from by omega, show (((x + 1 : Nat) : Int) - 40 - 1 + 40).toNat = x from by omega]
  rw [hits_edges g hy (by omega), e]
  cases g y x <;> cases g y (x + 1) <;> rfl
end Go.Proofs.Ytldgjocjcbhkmab
