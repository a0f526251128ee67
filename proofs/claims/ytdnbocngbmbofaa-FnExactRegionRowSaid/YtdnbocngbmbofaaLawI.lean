/- Contracts of the laws' own helpers on lists of numbers; slices of numbers that a call owns. -/
import Derived.Test.YtdnbocngbmbofaaLawS
import Derived.BigQuiet
namespace Go.Proofs.Ytdnbocngbmbofaa
open Go.RowKit
attribute [local go_sem low] cell_alloc_ite frozen_alloc_ite

def intV (l : List Int) : List Value := l.map (Value.int .i64)
def OwnInts (w : World) (base : Nat) (v : Value) (l : List Int) : Prop := w.ownsRow base 2 1 v l.length (intV l)
def IntsIn (B : Nat) (w : World) (a : Option Addr) (l : List Int) : Prop := ∀ (j : Nat) (k : Int), l[j]? = some k → ∃ g, a = some ⟨g, 0, none⟩ ∧ g < B ∧ w.cell? ⟨g, j, none⟩ = some (.int .i64 k)
theorem IntsIn.below {B C : Nat} {w w' : World} {a : Option Addr} {l : List Int} (h : IntsIn B w a l) (hb : Below C w w') (hc : B ≤ C) : IntsIn B w' a l := fun j k hj => by
  obtain ⟨g, ha, hg, c⟩ := h j k hj
  exact ⟨g, ha, hg, (hb.cell (p := ⟨g, _, none⟩) (Nat.lt_of_lt_of_le hg hc)).trans c⟩
def RetI (w : World) (L : List Int) (e : Ending) (w' : World) : Prop := ∃ a cap, e = .returned (.slice a L.length cap) ∧ OwnInts w' w.heap.size (.slice a L.length cap) L ∧ Below w.heap.size w w'
theorem own_sliceI {w : World} {base : Nat} {v : Value} {l : List Int} (h : OwnInts w base v l) : ∃ a cap, v = .slice a l.length cap := by
  rcases h.2 with ⟨rfl, hl⟩ | ⟨g, cap, cur, rfl, _⟩
  · exact ⟨none, 0, by rw [hl]⟩
  · exact ⟨_, _, rfl⟩
theorem retI_of {w : World} {L : List Int} {e : Ending} {w' : World} (h : ∃ v, e = .returned v ∧ OwnInts w' w.heap.size v L ∧ Below w.heap.size w w') : RetI w L e w' := by
  obtain ⟨v, he, ho, hb⟩ := h
  obtain ⟨a, cap, rfl⟩ := own_sliceI ho
  exact ⟨a, cap, he, ho, hb⟩
theorem retI_nil {w w' : World} {e : Ending} (h : e = .returned (.slice none 0 0)) (hb : Below w.heap.size w w') : RetI w [] e w' :=
  ⟨none, 0, h, World.ownsRow_nil w' w.heap.size _ 1, hb⟩
theorem ints_at {w : World} {base n cap : Nat} {a : Option Addr} {l : List Int} (h : OwnInts w base (.slice a n cap) l) : IntsIn w.heap.size w a l := by
  have hx := h
  unfold OwnInts at hx
  rcases h.2 with ⟨hq, hl⟩ | ⟨g, cap', cur, hq, hb, hg, _⟩
  · have : l = [] := List.eq_nil_of_length_eq_zero hl
    subst this
    exact fun j k hj => by simp at hj
  · simp only [Value.slice.injEq] at hq
    obtain ⟨rfl, rfl, rfl⟩ := hq
    refine fun j k hj => ⟨g, rfl, (Array.getElem?_eq_some_iff.1 hg).1, ?_⟩
    have hj2 : j < l.length := (List.getElem?_eq_some_iff.1 hj).1
    rw [hx.cellAt j (by omega)]
    simp [intV, hj]
theorem own_baseI {w : World} {b b' : Nat} {v : Value} {l : List Int} (h : OwnInts w b v l) (hb : b' ≤ b) : OwnInts w b' v l := by
  refine ⟨h.1, ?_⟩
  rcases h.2 with hn | ⟨g, cap, cur, rfl, hg, rest⟩
  · exact .inl hn
  · exact .inr ⟨g, cap, cur, rfl, Nat.le_trans hb hg, rest⟩
theorem own_nextI {w w' : World} {base : Nat} {v : Value} {l : List Int} (h : OwnInts w base v l) (hb : Below w.heap.size w w') : OwnInts w' base v l := own_below h hb
theorem own_ne_row {w w' : World} {b e s n e' s' n' : Nat} {v v' : Value} {xs xs' : List Value} (h : w.ownsRow b e s v n xs) (h' : w'.ownsRow w.heap.size e' s' v' n' xs') : v.ownBlock = none ∨ v.ownBlock ≠ v'.ownBlock := by
  cases hq : v.ownBlock with
  | none => exact .inl rfl
  | some k =>
    refine .inr fun he => ?_
    have h1 := (h.lt k hq).2
    have h2 := (h'.lt k he.symm).1
    omega
theorem own_neRI {w w' : World} {b : Nat} {v v' : Value} {l : List Rc} {l' : List Int} (h : OwnRects w b v l) (h' : OwnInts w' w.heap.size v' l') : v.ownBlock = none ∨ v.ownBlock ≠ v'.ownBlock := own_ne_row h h'
theorem own_neIR {w w' : World} {b : Nat} {v v' : Value} {l : List Int} {l' : List Rc} (h : OwnInts w b v l) (h' : OwnRects w' w.heap.size v' l') : v.ownBlock = none ∨ v.ownBlock ≠ v'.ownBlock := own_ne_row h h'
theorem own_neII {w w' : World} {b : Nat} {v v' : Value} {l : List Int} {l' : List Int} (h : OwnInts w b v l) (h' : OwnInts w' w.heap.size v' l') : v.ownBlock = none ∨ v.ownBlock ≠ v'.ownBlock := own_ne_row h h'
theorem own_markedI {w w' : World} {base : Nat} {v : Value} {l : List Int} {row : Option Nat} (h : OwnInts w base v l) (hg : w.grownBy w' row) (hne : v.ownBlock = none ∨ v.ownBlock ≠ row) : OwnInts w' base v l :=
  World.ownsRow.kept (show w.ownsRow base 2 1 v l.length (intV l) from h) hg hne
theorem below_markedI {W w w' : World} {v : Value} {l : List Int} (hb : Below W.heap.size W w) (ho : OwnInts w W.heap.size v l) (hg : w.grownBy w' v.ownBlock) : Below W.heap.size W w' :=
  grown_below hb (show w.ownsRow W.heap.size 2 1 v l.length (intV l) from ho) hg
theorem not_neg_lenI (n : Nat) : ¬ (1 + (n : Int) < 0) := by omega
def markI (k : Int) (n : Nat) : List Int := (List.range n).map fun i : Nat => k + (i : Int)
theorem markI_length (k : Int) (n : Nat) : (markI k n).length = n := by simp [markI]
theorem markI_get (k : Int) (n i : Nat) (h : i < n) : (markI k n)[i]? = some (k + (i : Int)) := by simp [markI, h]
def intC (l : List Int) (j : Nat) : Value := (intV l).getD j undef
theorem intV_rowF (l : List Int) : intV l = rowF (intC l) l.length := list_rowF (intV l) (by simp [intV])
theorem intV_mark (k : Int) (n : Nat) : intV (markI k n) = rowF (markC k) n := by
  simp [intV, markI, rowF, markC]
theorem own_at1 {w : World} {base e g n cap : Nat} {f : Nat → Value} (h : w.ownsRow base e 1 (.slice (some ⟨g, 0, none⟩) n cap) n (rowF f n)) (j : Nat) (hj : j < n) : w.cell? ⟨g, j, none⟩ = some (f j) :=
  (h.cellAt j (by omega)).trans (rowF_get f _ j hj)
set_option maxHeartbeats 1600000 in
theorem laws_eqInt64S (l : List Int) (a a' : Option Addr) (cap cap' : Nat) (w : World) (h : IntsIn w.heap.size w a l) (h' : IntsIn w.heap.size w a' l) (hn : l.length ≤ 2000000) :
    Calls Try.prog 19 #[.slice a l.length cap, .slice a' l.length cap'] w fun e w' => e = .returned (.bool true) ∧ Below w.heap.size w w' := by
  go_enter Try.func19, Try.ntmps19
  go_wp2_with fail
  go_loopw [5] (fun sk wr => ∃ i : Nat, i ≤ l.length ∧ sk = .int .i64 i ∧ Below w.heap.size w wr) (fun k _ => l.length - (intOf k).toNat)
  case atStart => exact ⟨0, Nat.zero_le _, rfl, (by repeat (first | with_reducible exact Below.refl _ _ | with_reducible assumption | with_reducible refine bel_alloc ?_ _ | with_reducible refine bel_drew ?_ | with_reducible refine bel_drewN ?_ _ | with_reducible refine bel_set ?_ (by (try simp) <;> omega) _ | with_reducible refine bel_trans ?_ (by assumption)))⟩
  case round =>
    obtain ⟨i, hi, rfl, hbl⟩ := hrel
    by_cases hy : i < l.length
    · obtain ⟨g, ha, hg, c0⟩ := h.below hbl (Nat.le_refl _) i l[i] (List.getElem?_eq_getElem hy)
      obtain ⟨g', ha', hg', c0'⟩ := h'.below hbl (Nat.le_refl _) i l[i] (List.getElem?_eq_getElem hy)
      subst ha
      subst ha'
      have hx0 : (0 : Int) ≤ (i : Int) := Int.natCast_nonneg _
      have hx1 : (i : Int) < (l.length : Int) := by omega
      go_wp2_with fail
      go_quiet (fail)
      go_wp2_with fail
      go_roundw
      case rel => exact ⟨i + 1, hy, by go_num, (by repeat (first | with_reducible exact Below.refl _ _ | with_reducible assumption | with_reducible refine bel_alloc ?_ _ | with_reducible refine bel_drew ?_ | with_reducible refine bel_drewN ?_ _ | with_reducible refine bel_set ?_ (by (try simp) <;> omega) _ | with_reducible refine bel_trans ?_ (by assumption)))⟩
      case measure => simp [intOf]; omega
    · go_wp2_with fail
      go_ret
      exact ⟨rfl, hbl⟩
set_option maxHeartbeats 1600000 in
theorem laws_markInt64S (l : List Int) (a : Option Addr) (cap base : Nat) (w : World) (h : OwnInts w base (.slice a l.length cap) l) (hn : l.length ≤ 2000000) :
    Calls Try.prog 22 #[.slice a l.length cap, .int .i64 1] w fun e w' => e = .returned (.int .i64 (1 + (l.length : Int))) ∧ OwnInts w' base (.slice a (markI 1 l.length).length cap) (markI 1 l.length) ∧ w.grownBy w' (Value.slice a l.length cap).ownBlock := by
  unfold OwnInts at h ⊢
  rw [intV_rowF] at h
  rw [intV_mark, markI_length]
  by_cases hn0 : l.length = 0
  · rw [hn0] at h ⊢
    go_enter Try.func22, Try.ntmps22
    go_wp2_with fail
    go_loopw [1, 5] (fun s1 s5 wr => s1 = .int .i64 1 ∧ s5 = .int .i64 0 ∧ wr = w) (fun _ _ _ => 0)
    case atStart => exact ⟨rfl, rfl, rfl⟩
    case round =>
      obtain ⟨rfl, rfl, rfl⟩ := hrel
      go_wp2_with fail
      go_ret
      exact ⟨rfl, h, ⟨rfl, rfl, rfl, Nat.le_refl _, fun _ _ _ => rfl⟩⟩
  · obtain ⟨g, cap', hq, hg1, hg2⟩ := h.form (by omega)
    simp only [Value.slice.injEq, true_and] at hq
    obtain ⟨rfl, rfl⟩ := hq
    generalize hm : l.length = m at *
    have HM := hide hm
    clear hm hn0
    generalize intC l = f0 at h
    go_enter Try.func22, Try.ntmps22
    go_wp2_with fail
    go_loopw [1, 5] (fun s1 s5 wr => ∃ (i : Nat) (f : Nat → Value), i ≤ m ∧ s5 = .int .i64 i ∧ s1 = .int .i64 (1 + (i : Int)) ∧ wr.ownsRow base 2 1 (.slice (some ⟨g, 0, none⟩) m cap) m (rowF f m) ∧ (∀ j, j < i → f j = markC 1 j) ∧ w.grownBy wr (some g)) (fun _ s5 _ => m - (intOf s5).toNat)
    case atStart => exact ⟨0, f0, Nat.zero_le _, rfl, rfl, h, fun j hj => absurd hj (by omega), ⟨rfl, rfl, rfl, Nat.le_refl _, fun _ _ _ => rfl⟩⟩
    case round =>
      obtain ⟨i, f, hi, rfl, rfl, hown, hf, hgr⟩ := hrel
      have HF := hide hf
      clear hf h
      by_cases hy : i < m
      · have d0 := own_at1 hown i hy
        have f0 := hown.frozenAt i
        go_wp2_with fail
        go_roundw
        case rel =>
          have s1 := (hown.stored i (.int .i64 (1 + (i : Int)))).1
          have g1 := hgr.trans (hown.stored i (.int .i64 (1 + (i : Int)))).2
          rw [rowF_set] at s1
          refine ⟨i + 1, _, hy, by go_num, by congr 1 <;> omega, s1, fun j hj => ?_, g1⟩
          by_cases e0 : j = i
          · rw [if_pos e0, e0]; rfl
          · rw [if_neg e0]
            exact HF.out j (by omega)
        case measure => simp [intOf]; omega
      · go_wp2_with fail
        go_ret
        obtain rfl : i = m := by omega
        refine ⟨rfl, ?_, hgr⟩
        rw [← rowF_congr fun j hj => HF.out j hj]
        exact hown
set_option maxHeartbeats 1600000 in
theorem laws_heldInt64S (n : Nat) (a : Option Addr) (cap : Nat) (w : World) (h : IntsIn w.heap.size w a (markI 1 n)) (hn : n ≤ 2000000) :
    Calls Try.prog 23 #[.slice a n cap, .int .i64 1] w fun e w' => e = .returned (.int .i64 (1 + (n : Int))) ∧ w = w' := by
  go_enter Try.func23, Try.ntmps23
  go_wp2_with fail
  go_loopw [1, 5] (fun s1 s5 wr => ∃ i : Nat, i ≤ n ∧ s5 = .int .i64 i ∧ s1 = .int .i64 (1 + (i : Int)) ∧ wr = w) (fun _ s5 _ => n - (intOf s5).toNat)
  case atStart => exact ⟨0, Nat.zero_le _, rfl, rfl, rfl⟩
  case round =>
    obtain ⟨i, hi, rfl, rfl, rfl⟩ := hrel
    by_cases hy : i < n
    · obtain ⟨g, ha, hg, c0⟩ := h i _ (markI_get 1 n i hy)
      subst ha
      go_wp2_with fail
      go_roundw
      case rel => exact ⟨i + 1, hy, by go_num, by first | trivial | (congr 1 <;> omega), by first | trivial | rfl⟩
      case measure => simp [intOf]; omega
    · go_wp2_with fail
      go_ret
      obtain rfl : i = n := by omega
      exact ⟨rfl, rfl⟩
end Go.Proofs.Ytdnbocngbmbofaa
