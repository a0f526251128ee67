/- Contracts: comparing rectangles; their common part as a result. -/
import Derived.Test.YtljjillfdjcjiaaGeo2
import Derived.Deep.DeepCutAuto
namespace Go.Proofs.Ytljjillfdjcjiaa
open Go.RowKit
attribute [local go_sem high] run_max2 run_min2 run_max3 run_max4

def cmpI (x y : Int) : Int := if x < y then -1 else if y < x then 1 else 0
set_option maxHeartbeats 400000 in
theorem cmp_Compare (x y : Int) (w : World) : Calls Try.prog 57 #[.int .i64 x, .int .i64 y] w fun e w' => e = .returned (.int .i64 (cmpI x y)) ∧ w = w' := by
  rcases Int.lt_trichotomy x y with h | h | h
  · go_enter Try.func57, Try.ntmps57
    go_wp2
    go_ret
    exact ⟨reti (by simp [cmpI, h]), rfl⟩
  · subst h
    go_enter Try.func57, Try.ntmps57
    go_wp2
    go_ret
    exact ⟨reti (by simp [cmpI]), rfl⟩
  · have h' : ¬ x < y := by omega
    go_enter Try.func57, Try.ntmps57
    go_wp2
    go_ret
    exact ⟨reti (by simp [cmpI, h, h']), rfl⟩
def or4 (a b c d : Int) : Int := if a ≠ 0 then a else if b ≠ 0 then b else if c ≠ 0 then c else d
set_option maxHeartbeats 800000 in
theorem cmp_Or4 (a b c d : Int) (g cap : Nat) (w : World) (h0 : w.cell? ⟨g, 0, none⟩ = some (.int .i64 a)) (h1 : w.cell? ⟨g, 1, none⟩ = some (.int .i64 b))
    (h2 : w.cell? ⟨g, 2, none⟩ = some (.int .i64 c)) (h3 : w.cell? ⟨g, 3, none⟩ = some (.int .i64 d)) :
    Calls Try.prog 56 #[.slice (some ⟨g, 0, none⟩) 4 cap] w fun e w' => e = .returned (.int .i64 (or4 a b c d)) ∧ w = w' := by
  by_cases ha : a = 0
  · by_cases hb : b = 0
    · by_cases hc : c = 0
      · by_cases hd : d = 0
        · subst ha hb hc hd
          skip
          go_enter Try.func56, Try.ntmps56
          go_wp2
          refine wp_loop_rounds 5 ?_
          rw [rounds_succ]
          go_wp2
          rw [rounds_succ]
          go_wp2
          rw [rounds_succ]
          go_wp2
          rw [rounds_succ]
          go_wp2
          rw [rounds_succ]
          go_wp2
          go_ret
          exact ⟨reti (by simp [or4]), rfl⟩
        · subst ha hb hc
          have hd' : (d != 0) = true := by simp [hd]
          go_enter Try.func56, Try.ntmps56
          go_wp2
          refine wp_loop_rounds 4 ?_
          rw [rounds_succ]
          go_wp2
          rw [rounds_succ]
          go_wp2
          rw [rounds_succ]
          go_wp2
          rw [rounds_succ]
          go_wp2
          go_ret
          exact ⟨reti (by simp [or4]), rfl⟩
      · subst ha hb
        have hc' : (c != 0) = true := by simp [hc]
        go_enter Try.func56, Try.ntmps56
        go_wp2
        refine wp_loop_rounds 3 ?_
        rw [rounds_succ]
        go_wp2
        rw [rounds_succ]
        go_wp2
        rw [rounds_succ]
        go_wp2
        go_ret
        exact ⟨reti (by simp [or4, hc]), rfl⟩
    · subst ha
      have hb' : (b != 0) = true := by simp [hb]
      go_enter Try.func56, Try.ntmps56
      go_wp2
      refine wp_loop_rounds 2 ?_
      rw [rounds_succ]
      go_wp2
      rw [rounds_succ]
      go_wp2
      go_ret
      exact ⟨reti (by simp [or4, hb]), rfl⟩
  · skip
    have ha' : (a != 0) = true := by simp [ha]
    go_enter Try.func56, Try.ntmps56
    go_wp2
    refine wp_loop_rounds 1 ?_
    rw [rounds_succ]
    go_wp2
    go_ret
    exact ⟨reti (by simp [or4, ha]), rfl⟩
set_option maxHeartbeats 1600000 in
theorem impl_compareRects (a0 a1 a2 a3 b0 b1 b2 b3 : Int) (w : World) : Calls Try.prog 53 #[.agg #[.int .i64 a0, .int .i64 a1, .int .i64 a2, .int .i64 a3], .agg #[.int .i64 b0, .int .i64 b1, .int .i64 b2, .int .i64 b3]] w fun e w' => e = .returned (.int .i64 (or4 (cmpI a1 b1) (cmpI a0 b0) (cmpI a3 b3) (cmpI a2 b2))) ∧ Below w.heap.size w w' := by
  go_enter Try.func53, Try.ntmps53
  go_wp2_with fail
  go_region_held3 (fun w' => w'.cell? ⟨w.heap.size, 0, none⟩ = some (.int .i64 a0) ∧ w'.cell? ⟨w.heap.size, 1, none⟩ = some (.int .i64 a1) ∧ w'.cell? ⟨w.heap.size, 2, none⟩ = some (.int .i64 a2) ∧ w'.cell? ⟨w.heap.size, 3, none⟩ = some (.int .i64 a3) ∧
      w'.cell? ⟨w.heap.size + 1, 0, none⟩ = some (.int .i64 b0) ∧ w'.cell? ⟨w.heap.size + 1, 1, none⟩ = some (.int .i64 b1) ∧ w'.cell? ⟨w.heap.size + 1, 2, none⟩ = some (.int .i64 b2) ∧ w'.cell? ⟨w.heap.size + 1, 3, none⟩ = some (.int .i64 b3))
    (simp [go_sem]) ((first
      | (go_at_call 57; refine (cmp_Compare _ _ _).mono ?_; rintro e w3 ⟨rfl, rfl⟩)
      | (go_at_call 56; refine Calls.mono (cmp_Or4 (cmpI a1 b1) (cmpI a0 b0) (cmpI a3 b3) (cmpI a2 b2) (w.heap.size + 1 + 1) 4 _ (by simp [go_sem]) (by simp [go_sem]) (by simp [go_sem]) (by simp [go_sem])) ?_; rintro e w3 ⟨rfl, rfl⟩)))
  go_wp2
  go_ret
  exact ⟨rfl, (by repeat (first | with_reducible exact Below.refl _ _ | with_reducible assumption | with_reducible refine bel_alloc ?_ _ | with_reducible refine bel_drew ?_ | with_reducible refine bel_drewN ?_ _ | with_reducible refine bel_set ?_ (by (try simp) <;> omega) _ | with_reducible refine bel_trans ?_ (by assumption)))⟩

def lessB (a0 a1 a2 a3 b0 b1 b2 b3 : Int) : Bool := if a1 ≠ b1 then decide (a1 < b1) else if a0 ≠ b0 then decide (a0 < b0) else if a3 ≠ b3 then decide (a3 < b3) else decide (a2 < b2)
theorem less_or4 (a0 a1 a2 a3 b0 b1 b2 b3 : Int) : or4 (cmpI a1 b1) (cmpI a0 b0) (cmpI a3 b3) (cmpI a2 b2) < 0 ↔ lessB a0 a1 a2 a3 b0 b1 b2 b3 = true := by
  have h (x y : Int) : (x < y ∧ cmpI x y = -1) ∨ (x = y ∧ cmpI x y = 0) ∨ (y < x ∧ cmpI x y = 1) := by
    unfold cmpI; split <;> (try split) <;> omega
  unfold lessB or4
  by_cases e1 : a1 = b1
  · by_cases e2 : a0 = b0
    · by_cases e3 : a3 = b3
      · have k1 : cmpI a1 b1 = 0 := by have := h a1 b1; omega
        have k2 : cmpI a0 b0 = 0 := by have := h a0 b0; omega
        have k3 : cmpI a3 b3 = 0 := by have := h a3 b3; omega
        rw [k1, k2, k3]
        simp [e1, e2, e3]
        have := h a2 b2; omega
      · have k1 : cmpI a1 b1 = 0 := by have := h a1 b1; omega
        have k2 : cmpI a0 b0 = 0 := by have := h a0 b0; omega
        have k3 : cmpI a3 b3 ≠ 0 := by have := h a3 b3; omega
        rw [k1, k2]
        simp [e1, e2, e3, k3]
        have := h a3 b3; omega
    · have k1 : cmpI a1 b1 = 0 := by have := h a1 b1; omega
      have k2 : cmpI a0 b0 ≠ 0 := by have := h a0 b0; omega
      rw [k1]
      simp [e1, e2, k2]
      have := h a0 b0; omega
  · have k1 : cmpI a1 b1 ≠ 0 := by have := h a1 b1; omega
    simp [e1, k1]
    have := h a1 b1; omega
set_option maxHeartbeats 800000 in
theorem impl_RectLess (a0 a1 a2 a3 b0 b1 b2 b3 : Int) (w : World) : Calls Try.prog 40 #[.agg #[.int .i64 a0, .int .i64 a1, .int .i64 a2, .int .i64 a3], .agg #[.int .i64 b0, .int .i64 b1, .int .i64 b2, .int .i64 b3]] w fun e w' => e = .returned (.bool (lessB a0 a1 a2 a3 b0 b1 b2 b3)) ∧ Below w.heap.size w w' := by
  have H := hide (less_or4 a0 a1 a2 a3 b0 b1 b2 b3)
  go_enter Try.func40, Try.ntmps40
  go_wp2_with (go_at_call 53; refine (impl_compareRects _ _ _ _ _ _ _ _ _).mono ?_; rintro e w1 ⟨rfl, hb⟩)
  all_goals (go_ret; exact ⟨retb (by rw [← H.out]; simp), (by repeat (first | with_reducible exact Below.refl _ _ | with_reducible assumption | with_reducible refine bel_alloc ?_ _ | with_reducible refine bel_drew ?_ | with_reducible refine bel_drewN ?_ _ | with_reducible refine bel_set ?_ (by (try simp) <;> omega) _ | with_reducible refine bel_trans ?_ (by assumption)))⟩)
set_option maxHeartbeats 800000 in
theorem spec_RectLess (a0 a1 a2 a3 b0 b1 b2 b3 : Int) (w : World) : Calls Try.prog 39 #[.agg #[.int .i64 a0, .int .i64 a1, .int .i64 a2, .int .i64 a3], .agg #[.int .i64 b0, .int .i64 b1, .int .i64 b2, .int .i64 b3]] w fun e w' => e = .returned (.bool (lessB a0 a1 a2 a3 b0 b1 b2 b3)) ∧ Below w.heap.size w w' := by
  go_enter Try.func39, Try.ntmps39
  go_wp2
  all_goals (go_ret; exact ⟨retb (by simp_all [lessB]), (by repeat (first | with_reducible exact Below.refl _ _ | with_reducible assumption | with_reducible refine bel_alloc ?_ _ | with_reducible refine bel_drew ?_ | with_reducible refine bel_drewN ?_ _ | with_reducible refine bel_set ?_ (by (try simp) <;> omega) _ | with_reducible refine bel_trans ?_ (by assumption)))⟩)
def zI (c : Bool) (x : Int) : Int := if c then x else 0
set_option maxHeartbeats 800000 in
theorem impl_IntersectRects (a0 a1 a2 a3 b0 b1 b2 b3 : Int) (w : World) : Calls Try.prog 37 #[.agg #[.int .i64 a0, .int .i64 a1, .int .i64 a2, .int .i64 a3], .agg #[.int .i64 b0, .int .i64 b1, .int .i64 b2, .int .i64 b3]] w
    fun e w' => e = .returned (.tuple #[.agg #[.int .i64 (zI (overB a0 a1 a2 a3 b0 b1 b2 b3) (max a0 b0)), .int .i64 (zI (overB a0 a1 a2 a3 b0 b1 b2 b3) (max a1 b1)), .int .i64 (zI (overB a0 a1 a2 a3 b0 b1 b2 b3) (min a2 b2)), .int .i64 (zI (overB a0 a1 a2 a3 b0 b1 b2 b3) (min a3 b3))], .bool (overB a0 a1 a2 a3 b0 b1 b2 b3)]) ∧ Below w.heap.size w w' := by
  by_cases h : overB a0 a1 a2 a3 b0 b1 b2 b3 = true
  · go_enter Try.func37, Try.ntmps37
    go_wp2_with (first
      | (go_at_call 24; refine (impl_RectsOverlap _ _ _ _ _ _ _ _ _).mono ?_; rintro e w1 ⟨rfl, hb⟩; obtain ⟨hc, hf⟩ := bcell hb; have hz := sz3 (show w.heap.size + 3 ≤ w1.heap.size by have := hb.size; (try simp at this); omega))
      | (go_at_call 44; refine (impl_common _ _ _ _ _ _ _ _ _).mono ?_; rintro e w1 ⟨rfl, hb⟩; obtain ⟨hc, hf⟩ := bcell hb; have hz := sz3 (show w.heap.size + 3 ≤ w1.heap.size by have := hb.size; (try simp at this); omega)))
    refine bodyPost_ret (v := .tuple #[.agg #[.int .i64 (max a0 b0), .int .i64 (max a1 b1), .int .i64 (min a2 b2), .int .i64 (min a3 b3)], .bool true]) (by simp [results, Try.results37, go_sem, *]) rfl ⟨?_, (by repeat (first | with_reducible exact Below.refl _ _ | with_reducible assumption | with_reducible refine bel_alloc ?_ _ | with_reducible refine bel_drew ?_ | with_reducible refine bel_drewN ?_ _ | with_reducible refine bel_set ?_ (by (try simp) <;> omega) _ | with_reducible refine bel_trans ?_ (by assumption)))⟩
    simp [zI, h]
  · go_enter Try.func37, Try.ntmps37
    go_wp2_with (first
      | (go_at_call 24; refine (impl_RectsOverlap _ _ _ _ _ _ _ _ _).mono ?_; rintro e w1 ⟨rfl, hb⟩; obtain ⟨hc, hf⟩ := bcell hb; have hz := sz3 (show w.heap.size + 3 ≤ w1.heap.size by have := hb.size; (try simp at this); omega)))
    refine bodyPost_ret (v := .tuple #[.agg #[.int .i64 (0), .int .i64 (0), .int .i64 (0), .int .i64 (0)], .bool false]) (by simp [results, Try.results37, go_sem, *]) rfl ⟨?_, (by repeat (first | with_reducible exact Below.refl _ _ | with_reducible assumption | with_reducible refine bel_alloc ?_ _ | with_reducible refine bel_drew ?_ | with_reducible refine bel_drewN ?_ _ | with_reducible refine bel_set ?_ (by (try simp) <;> omega) _ | with_reducible refine bel_trans ?_ (by assumption)))⟩
    simp [zI, h]
set_option maxHeartbeats 800000 in
theorem spec_IntersectRects (a0 a1 a2 a3 b0 b1 b2 b3 : Int) (w : World) : Calls Try.prog 36 #[.agg #[.int .i64 a0, .int .i64 a1, .int .i64 a2, .int .i64 a3], .agg #[.int .i64 b0, .int .i64 b1, .int .i64 b2, .int .i64 b3]] w
    fun e w' => e = .returned (.tuple #[.agg #[.int .i64 (zI (overB a0 a1 a2 a3 b0 b1 b2 b3) (max a0 b0)), .int .i64 (zI (overB a0 a1 a2 a3 b0 b1 b2 b3) (max a1 b1)), .int .i64 (zI (overB a0 a1 a2 a3 b0 b1 b2 b3) (min a2 b2)), .int .i64 (zI (overB a0 a1 a2 a3 b0 b1 b2 b3) (min a3 b3))], .bool (overB a0 a1 a2 a3 b0 b1 b2 b3)]) ∧ Below w.heap.size w w' := by
  by_cases h : overB a0 a1 a2 a3 b0 b1 b2 b3 = true
  · go_enter Try.func36, Try.ntmps36
    go_wp2_with (first
      | (go_at_call 23; refine (spec_RectsOverlap _ _ _ _ _ _ _ _ _).mono ?_; rintro e w1 ⟨rfl, hb⟩; obtain ⟨hc, hf⟩ := bcell hb; have hz := sz3 (show w.heap.size + 3 ≤ w1.heap.size by have := hb.size; (try simp at this); omega)))
    refine bodyPost_ret (v := .tuple #[.agg #[.int .i64 (max a0 b0), .int .i64 (max a1 b1), .int .i64 (min a2 b2), .int .i64 (min a3 b3)], .bool true]) (by simp [results, Try.results36, go_sem, *]) rfl ⟨?_, (by repeat (first | with_reducible exact Below.refl _ _ | with_reducible assumption | with_reducible refine bel_alloc ?_ _ | with_reducible refine bel_drew ?_ | with_reducible refine bel_drewN ?_ _ | with_reducible refine bel_set ?_ (by (try simp) <;> omega) _ | with_reducible refine bel_trans ?_ (by assumption)))⟩
    simp [zI, h]
  · go_enter Try.func36, Try.ntmps36
    go_wp2_with (first
      | (go_at_call 23; refine (spec_RectsOverlap _ _ _ _ _ _ _ _ _).mono ?_; rintro e w1 ⟨rfl, hb⟩; obtain ⟨hc, hf⟩ := bcell hb; have hz := sz3 (show w.heap.size + 3 ≤ w1.heap.size by have := hb.size; (try simp at this); omega)))
    refine bodyPost_ret (v := .tuple #[.agg #[.int .i64 (0), .int .i64 (0), .int .i64 (0), .int .i64 (0)], .bool false]) (by simp [results, Try.results36, go_sem, *]) rfl ⟨?_, (by repeat (first | with_reducible exact Below.refl _ _ | with_reducible assumption | with_reducible refine bel_alloc ?_ _ | with_reducible refine bel_drew ?_ | with_reducible refine bel_drewN ?_ _ | with_reducible refine bel_set ?_ (by (try simp) <;> omega) _ | with_reducible refine bel_trans ?_ (by assumption)))⟩
    simp [zI, h]
end Go.Proofs.Ytljjillfdjcjiaa
