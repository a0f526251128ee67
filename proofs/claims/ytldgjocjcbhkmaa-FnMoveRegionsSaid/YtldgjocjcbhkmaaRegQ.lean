/- Contracts: the squares that a region covers (the reference). -/
import Derived.Test.YtldgjocjcbhkmaaRegL
namespace Go.Proofs.Ytldgjocjcbhkmaa
open Go.RowKit
attribute [local go_sem low] cell_alloc_ite frozen_alloc_ite

theorem hasI_nat {g : Grid} {u v : Nat} : hasI g ((v : Int) - 40) ((u : Int) - 40) = true ↔ u < 80 ∧ v < 80 ∧ g u v = true := by
  simp only [hasI, Bool.and_eq_true, inR_iff, show ((u : Int) - 40 + 40).toNat = u from by omega, show ((v : Int) - 40 + 40).toNat = v from by omega]
  constructor
  · rintro ⟨⟨h1, h2⟩, h3⟩; exact ⟨by omega, by omega, h3⟩
  · rintro ⟨h1, h2, h3⟩; exact ⟨⟨by omega, by omega⟩, h3⟩
theorem full_has {g : Grid} {K i j : Nat} (hK : 0 < K) : fullG K g i j = true ↔ ∀ u v, i ≤ u → u < i + K → j ≤ v → v < j + K → hasI g ((v : Int) - 40) ((u : Int) - 40) = true := by
  rw [fullG_iff]
  constructor
  · rintro ⟨h1, h2, h3⟩ u v hu1 hu2 hv1 hv2
    refine hasI_nat.2 ⟨by omega, by omega, ?_⟩
    have := h3 (u - i) (by omega) (v - j) (by omega)
    rwa [show i + (u - i) = u from by omega, show j + (v - j) = v from by omega] at this
  · intro h
    have h1 := hasI_nat.1 (h (i + K - 1) (j + K - 1) (by omega) (by omega) (by omega) (by omega))
    exact ⟨by omega, by omega, fun a ha b hb => (hasI_nat.1 (h (i + a) (j + b) (by omega) (by omega) (by omega) (by omega))).2.2⟩
def sqR (k : Int) (l : List Rc) : List Rc := if sizB l k && !(k == 0) then regionL (sqG k.toNat (bitsOf l)) else []
theorem sqR_len (k : Int) (l : List Rc) : (sqR k l).length ≤ 2000000 := by
  unfold sqR
  split
  · exact region_lenN _
  · simp
/-- The cells that lie in a full square that starts ahead of (i, j). -/
def sqTo (K : Nat) (g : Grid) (i j u v : Nat) : Prop := ∃ i0 j0, (i0 < i ∨ i0 = i ∧ j0 < j) ∧ i0 < 80 ∧ j0 < 80 ∧ fullG K g i0 j0 = true ∧ i0 ≤ u ∧ u < i0 + K ∧ j0 ≤ v ∧ v < j0 + K
theorem sqTo_zero {K : Nat} {g : Grid} {u v : Nat} : ¬ sqTo K g 0 0 u v := by rintro ⟨i0, j0, h, _⟩; omega
theorem sqTo_row {K : Nat} {g : Grid} {i u v : Nat} : sqTo K g (i + 1) 0 u v ↔ sqTo K g i 80 u v := by
  constructor
  · rintro ⟨i0, j0, h, r⟩; exact ⟨i0, j0, by omega, r⟩
  · rintro ⟨i0, j0, h, r⟩; exact ⟨i0, j0, by omega, r⟩
theorem sqTo_no {K : Nat} {g : Grid} {i j u v : Nat} (hf : fullG K g i j = false) : sqTo K g i (j + 1) u v ↔ sqTo K g i j u v := by
  constructor
  · rintro ⟨i0, j0, h, h1, h2, h3, r⟩
    by_cases e : i0 = i ∧ j0 = j
    · rw [e.1, e.2, hf] at h3; cases h3
    · exact ⟨i0, j0, by omega, h1, h2, h3, r⟩
  · rintro ⟨i0, j0, h, r⟩; exact ⟨i0, j0, by omega, r⟩
theorem sqTo_yes {K : Nat} {g : Grid} {i j u v : Nat} (hf : fullG K g i j = true) (hi : i < 80) (hj : j < 80) : sqTo K g i (j + 1) u v ↔ sqTo K g i j u v ∨ (i ≤ u ∧ u < i + K ∧ j ≤ v ∧ v < j + K) := by
  constructor
  · rintro ⟨i0, j0, h, h1, h2, h3, r⟩
    by_cases e : i0 = i ∧ j0 = j
    · obtain ⟨rfl, rfl⟩ := e; exact .inr r
    · exact .inl ⟨i0, j0, by omega, h1, h2, h3, r⟩
  · rintro (⟨i0, j0, h, r⟩ | r)
    · exact ⟨i0, j0, by omega, r⟩
    · exact ⟨i, j, by omega, hi, hj, hf, r⟩
theorem sqTo_all {K : Nat} {g : Grid} {u v : Nat} : sqTo K g 80 0 u v ↔ sqG K g u v = true := by
  rw [sqG_iff]
  constructor
  · rintro ⟨i0, j0, h, h1, h2, r⟩; exact ⟨i0, h1, j0, h2, r⟩
  · rintro ⟨i0, h1, j0, h2, r⟩; exact ⟨i0, j0, by omega, h1, h2, r⟩
theorem row_iff {w : World} {b t : Nat} {f : Grid} {X : Nat → Nat → Prop} (hr : w.rowIs b t 6400 (gv f)) (hX : ∀ u v, u < 80 → v < 80 → (f u v = true ↔ X u v)) {i k : Nat} (hk : k < 80) :
    (w.setCell ⟨b, i * 80 + k, none⟩ (.bool true)).rowIs b t 6400 (gv (upd f i k true)) ∧ ∀ u v, u < 80 → v < 80 → (upd f i k true u v = true ↔ X u v ∨ (u = i ∧ v = k)) := by
  refine ⟨row_upd hr hk true, fun u v hu hv => ?_⟩
  by_cases e : u = i ∧ v = k
  · simp [upd, e]
  · rw [upd_other e, hX u v hu hv]
    exact ⟨.inl, fun h => h.resolve_right e⟩
end Go.Proofs.Ytldgjocjcbhkmaa
