/- Contracts: what the laws draw from a code. -/
import Derived.Test.YtldgjocjcbhkmabDrw3
namespace Go.Proofs.Ytldgjocjcbhkmab
open Go.RowKit
attribute [local go_sem high] run_max2 run_min2
attribute [local go_sem low] cell_alloc_ite frozen_alloc_ite

/-- One region and, maybe, a number behind it. -/
theorem spoil_any {B g : Nat} {l : List Rc} {a : Option Addr} {cap : Nat} {n : Int} (hn : 1 ≤ n ∧ n ≤ 1000000) {w : World} (h : IsSrc B w g) {b : Nat} (ho : OwnRects w b (.slice a l.length cap) l) (hb : B ≤ b) (hg : g < b)
    (hl : l.length ≤ 3200) (hok : ∀ r ∈ l, r.ok = true) : Calls Try.prog 28 #[.pointer (some ⟨g, 0, none⟩), .slice a l.length cap, .int .i64 n] w
    fun e w' => ∃ (l' : List Rc) (a' : Option Addr) (cap' : Nat), e = .returned (.slice a' l'.length cap') ∧ OwnRects w' B (.slice a' l'.length cap') l' ∧ ((Value.slice a' l'.length cap').ownBlock = none ∨ (Value.slice a' l'.length cap').ownBlock ≠ some g) ∧ l'.length ≤ 3201 ∧ Drawn B g w w' :=
  spec_l03Spoil B g l a cap n hn w h (own_base ho hb) (own_far ho hg) hl hok
/-- Two drawn lists. -/
def RetD2 (w : World) (e : Ending) (w' : World) : Prop := ∃ (la : List Rc) (a : Option Addr) (ca : Nat) (lb : List Rc) (b : Option Addr) (cb : Nat), e = .returned (.tuple #[.slice a la.length ca, .slice b lb.length cb]) ∧
  RectsAt w'.heap.size w' a la ∧ RectsAt w'.heap.size w' b lb ∧ la.length ≤ 2000000 ∧ lb.length ≤ 2000000 ∧ Below w.heap.size w w'
/-- A drawn list and a number. -/
def RetDI (w : World) (e : Ending) (w' : World) : Prop := ∃ (la : List Rc) (a : Option Addr) (ca : Nat) (k : Int), e = .returned (.tuple #[.slice a la.length ca, .int .i64 k]) ∧
  RectsAt w'.heap.size w' a la ∧ la.length ≤ 2000000 ∧ -1 ≤ k ∧ k ≤ 20 ∧ Below w.heap.size w w'
end Go.Proofs.Ytldgjocjcbhkmab
