/- Small lemmas for the walks of the laws on lists of rectangles: who owns which block. -/
import Derived.Test.YtldgjocjcbhkmaaFrameR
namespace Go.Proofs.Ytldgjocjcbhkmaa
open Go.RowKit

/-- A call hands back a new slice of rectangles. -/
def RetS (w : World) (L : List Rc) (e : Ending) (w' : World) : Prop := ∃ a cap, e = .returned (.slice a L.length cap) ∧ OwnRects w' w.heap.size (.slice a L.length cap) L ∧ Below w.heap.size w w'
/-- .. and a bool. -/
def RetSB (w : World) (L : List Rc) (b : Bool) (e : Ending) (w' : World) : Prop := ∃ a cap, e = .returned (.tuple #[.slice a L.length cap, .bool b]) ∧ OwnRects w' w.heap.size (.slice a L.length cap) L ∧ Below w.heap.size w w'
theorem own_slice {w : World} {base : Nat} {v : Value} {l : List Rc} (h : OwnRects w base v l) : ∃ a cap, v = .slice a l.length cap := by
  rcases h.2 with ⟨rfl, hl⟩ | ⟨g, cap, cur, rfl, _⟩
  · exact ⟨none, 0, by rw [hl]⟩
  · exact ⟨_, _, rfl⟩
theorem retS_of {w : World} {L : List Rc} {e : Ending} {w' : World} (h : ∃ v, e = .returned v ∧ OwnRects w' w.heap.size v L ∧ Below w.heap.size w w') : RetS w L e w' := by
  obtain ⟨v, he, ho, hb⟩ := h
  obtain ⟨a, cap, rfl⟩ := own_slice ho
  exact ⟨a, cap, he, ho, hb⟩
theorem retS_nil {w w' : World} {e : Ending} (h : e = .returned (.slice none 0 0)) (hb : Below w.heap.size w w') : RetS w [] e w' :=
  ⟨none, 0, h, World.ownsRow_nil w' w.heap.size _ 4, hb⟩
theorem retSB_nil {w w' : World} {e : Ending} {b : Bool} (h : e = .returned (.tuple #[.slice none 0 0, .bool b])) (hb : Below w.heap.size w w') : RetSB w [] b e w' :=
  ⟨none, 0, h, World.ownsRow_nil w' w.heap.size _ 4, hb⟩
theorem rects_at {w : World} {base n cap : Nat} {a : Option Addr} {l : List Rc} (h : OwnRects w base (.slice a n cap) l) : RectsAt w.heap.size w a l := by
  obtain ⟨a', cap', hq, hr, _⟩ := rects_of_own h
  simp only [Value.slice.injEq] at hq
  rw [hq.1]
  exact hr
theorem own_base {w : World} {b b' : Nat} {v : Value} {l : List Rc} (h : OwnRects w b v l) (hb : b' ≤ b) : OwnRects w b' v l := by
  refine ⟨h.1, ?_⟩
  rcases h.2 with hn | ⟨g, cap, cur, rfl, hg, rest⟩
  · exact .inl hn
  · exact .inr ⟨g, cap, cur, rfl, Nat.le_trans hb hg, rest⟩
theorem own_next {w w' : World} {base : Nat} {v : Value} {l : List Rc} (h : OwnRects w base v l) (hb : Below w.heap.size w w') : OwnRects w' base v l := own_below h hb
/-- The block of a slice that was there is not the block of a slice that is made anew. -/
theorem own_ne {w w' : World} {b : Nat} {v v' : Value} {l l' : List Rc} (h : OwnRects w b v l) (h' : OwnRects w' w.heap.size v' l') : v.ownBlock = none ∨ v.ownBlock ≠ v'.ownBlock := by
  cases hq : v.ownBlock with
  | none => exact .inl rfl
  | some k =>
    refine .inr fun e => ?_
    have h1 := (World.ownsRow.lt (show w.ownsRow b 39 4 v l.length (rowL l) from h) k hq).2
    have h2 := (World.ownsRow.lt (show w'.ownsRow w.heap.size 39 4 v' l'.length (rowL l') from h') k e.symm).1
    omega
theorem or_symm_ne {a b : Option Nat} (h : a = none ∨ a ≠ b) : b = none ∨ b ≠ a := by
  cases b with
  | none => exact .inl rfl
  | some k =>
    rcases h with rfl | h
    · exact .inr (by simp)
    · exact .inr (Ne.symm h)
theorem own_marked {w w' : World} {base : Nat} {v : Value} {l : List Rc} {row : Option Nat} (h : OwnRects w base v l) (hg : w.grownBy w' row) (hne : v.ownBlock = none ∨ v.ownBlock ≠ row) : OwnRects w' base v l :=
  World.ownsRow.kept (show w.ownsRow base 39 4 v l.length (rowL l) from h) hg hne
theorem below_marked {W w w' : World} {v : Value} {l : List Rc} (hb : Below W.heap.size W w) (ho : OwnRects w W.heap.size v l) (hg : w.grownBy w' v.ownBlock) : Below W.heap.size W w' :=
  grown_below hb (show w.ownsRow W.heap.size 39 4 v l.length (rowL l) from ho) hg
theorem in_at {W w : World} {a : Option Addr} {l : List Rc} (h : InRects W.heap.size W a l) (hb : Below W.heap.size W w) : InRects w.heap.size w a l := (h.below hb (Nat.le_refl _)).mono hb.size
theorem not_neg_len (n : Nat) : ¬ (1 + 4 * (n : Int) < 0) := by omega
theorem not_neg_left (m : Int) (n : Nat) (h : (n : Int) ≤ m) : ¬ (m - (n : Int) < 0) := by omega
set_option maxRecDepth 100000 in
set_option maxHeartbeats 400000 in
theorem laws_szRectS_ok (n cap : Nat) (a : Option Addr) (m : Int) (hm : m ≤ 1048576) (hn : (n : Int) ≤ m) (w : World) : Calls Try.prog 64 #[.slice a n cap, .int .i64 m] w fun e w' => e = .returned (.int .i64 (m - (n : Int))) ∧ w = w' := by
  have h1 : ¬ (m - (n : Int) < 0) := by omega
  go_enter Try.func64, Try.ntmps64
  go_wp2
  go_ret
  exact ⟨rfl, rfl⟩
set_option maxRecDepth 100000 in
set_option maxHeartbeats 400000 in
theorem laws_szRectS_no (n cap : Nat) (a : Option Addr) (m : Int) (hm : 0 ≤ m ∧ m ≤ 1048576) (hn : ¬ (n : Int) ≤ m) (hl : n ≤ maxLen) (w : World) : Calls Try.prog 64 #[.slice a n cap, .int .i64 m] w fun e w' => e = .returned (.int .i64 (-1)) ∧ w = w' := by
  unfold maxLen at hl
  obtain ⟨hm0, hm1⟩ := hm
  have h1 : m - (n : Int) < 0 := by omega
  go_enter Try.func64, Try.ntmps64
  go_wp2
  go_ret
  exact ⟨rfl, rfl⟩
end Go.Proofs.Ytldgjocjcbhkmaa
