/- Contracts: the sorted edges of a set (the program). -/
import Derived.Test.YtldgjocjcbhkmabEdg4
import Derived.Shelf.SlSortCmp.NoneTotal
namespace Go.Proofs.Ytldgjocjcbhkmab
open Go.RowKit Go.Sort Go.Proofs
attribute [local go_sem low] cell_alloc_ite frozen_alloc_ite

instance : Inhabited Rc := ⟨⟨0, 0, 0, 0⟩⟩
def sortE (l : List Rc) : List Rc := (pdq (ltOf edgeCmp) l.toArray 0 l.toArray.size (Lib.bitLen l.toArray.size) true true).toList
theorem sortE_perm (l : List Rc) : (sortE l).Perm l := by
  have h := (pdq_sorts (ltOf edgeCmp) edge_swo l.toArray 0 l.toArray.size (Lib.bitLen l.toArray.size) true true (Nat.zero_le _) (Nat.le_refl _) (Or.inl rfl)).1
  obtain ⟨h1, _, h2⟩ := h
  have key : ∀ (P : Array Rc) (n : Nat), P.size = n → P.extract 0 n = P := fun P n h => by subst h; exact Array.extract_size
  have e1 := key _ _ h1
  have e2 : l.toArray.extract 0 l.toArray.size = l.toArray := Array.extract_size
  rw [e1, e2] at h2
  exact h2
theorem flat_rowL (l : List Rc) : (flatK rcV 4 l.toArray).toList = rowL l := by
  apply List.ext_getElem?
  intro t
  by_cases ht : t < l.length * 4
  · obtain ⟨i, q, hq, rfl⟩ : ∃ i q : Nat, q < 4 ∧ t = i * 4 + q := ⟨t / 4, t % 4, by omega, by omega⟩
    have hi : i < l.length := by omega
    obtain ⟨r0, r1, r2, r3⟩ := rowL_get l i hi
    have hs : i * 4 + q < (flatK rcV 4 l.toArray).size := by rw [size_flatK]; simpa using ht
    have hg := get_flatK rcV 4 l.toArray (i * 4 + q) (by simpa using ht)
    rw [getElem!_pos (flatK rcV 4 l.toArray) (i * 4 + q) hs] at hg
    rw [Array.getElem?_toList, Array.getElem?_eq_getElem hs, hg, show (i * 4 + q) / 4 = i from by omega, show (i * 4 + q) % 4 = q from by omega]
    have hl : l.toArray[i]! = l[i] := by rw [getElem!_pos _ i (by simpa using hi)]; simp
    rw [hl]
    have : q = 0 ∨ q = 1 ∨ q = 2 ∨ q = 3 := by omega
    rcases this with rfl | rfl | rfl | rfl
    · rw [Nat.add_zero, r0]; rfl
    · rw [r1]; rfl
    · rw [r2]; rfl
    · rw [r3]; rfl
  · rw [List.getElem?_eq_none (by rw [Array.length_toList, size_flatK]; simp; omega), List.getElem?_eq_none (by rw [rowL_length]; omega)]
theorem take_putId (cur F : Array Value) (h : F.size ≤ cur.size) : (putCells id 0 F cur).toList.take F.size = F.toList := by
  apply List.ext_getElem?
  intro j
  by_cases hj : j < F.size
  · rw [List.getElem?_take_of_lt hj, Array.getElem?_toList]
    simp [putCells, hj, show j < cur.size by omega]
  · rw [List.getElem?_take_eq_none (by omega), List.getElem?_eq_none (by simp; omega)]
theorem heap_putId {w : World} {g n : Nat} {os : Array Obj} {cur : Array Value} {e : TypeId} {fr : Nat × Nat} (F : Array Value) (hb : w.heap[g]? = some (.cells cur e fr)) :
    (grow (putRow id (Go.Sort.ahead w n) g 0 F) os).heap[g]? = some (.cells (putCells id 0 F cur) e fr) := by
  have hg : g < w.heap.size := (Array.getElem?_eq_some_iff.1 hb).1
  rw [heap_grow_old _ _ (by simpa using hg)]
  simp [putRow, mapBlock, Go.Sort.ahead, Array.getElem?_modify, hb, onCells]
theorem grownBy_putId {w : World} {g n : Nat} {os : Array Obj} (F : Array Value) : w.grownBy (grow (putRow id (Go.Sort.ahead w n) g 0 F) os) (some g) := by
  refine ⟨rfl, rfl, rfl, by simp, fun k hk hne => ?_⟩
  rw [heap_grow_old _ _ (by simpa using hk)]
  have : g ≠ k := fun e => hne (by rw [e])
  simp [putRow, mapBlock, Go.Sort.ahead, Array.getElem?_modify, this]
set_option maxRecDepth 100000 in
set_option maxHeartbeats 1600000 in
theorem slices_Sort_edges (l : List Rc) (a : Option Addr) (cap base : Nat) (w : World) (h : OwnE w base (.slice a l.length cap) l) (hl : l.length ≤ 100000) :
    Calls Try.prog 52 #[.slice a l.length cap, .func (.func 53) #[] #[]] w
      fun e w' => e = .returned (.tuple #[]) ∧ OwnE w' base (.slice a (sortE l).length cap) (sortE l) ∧ w.grownBy w' (Value.slice a l.length cap).ownBlock := by
  have hlen : (sortE l).length = l.length := (sortE_perm l).length_eq
  rcases h.2 with ⟨hq, h0⟩ | ⟨g, cap', cur, hq, hbase, hg, hlc, hcm, hcs, htk⟩
  · have hl0 : l = [] := List.length_eq_zero_iff.1 h0
    subst hl0
    have hs : sortE [] = [] := List.length_eq_zero_iff.1 hlen
    rw [hs]
    have hcon := AnyF.slices_SortFunc_none { Try.sortE with } a cap (.func (.func 53) #[] #[]) w
    exact hcon.mono fun e w' ⟨he, hw⟩ => by subst hw; exact ⟨he, h, grown_of_below (Below.refl _ _) _⟩
  · simp only [Value.slice.injEq, true_and] at hq
    obtain ⟨rfl, rfl⟩ := hq
    have hgl : g < w.heap.size := (Array.getElem?_eq_some_iff.1 hg).1
    have hH : HoldsK rcV 4 w g 0 l.toArray := by
      intro j hj
      rw [size_flatK] at hj
      have hj' : j < l.length * 4 := by simpa using hj
      have hs : j < (flatK rcV 4 l.toArray).size := by rw [size_flatK]; exact hj
      refine ⟨?_, frozen_of_row w g _ cur _ hg⟩
      rw [Nat.zero_add, cell_of_row w g j cur 38 (0, 0) hg, getElem!_pos (flatK rcV 4 l.toArray) j hs]
      have e1 : (rowL l)[j]? = some (flatK rcV 4 l.toArray)[j] := by rw [← flat_rowL, Array.getElem?_toList, Array.getElem?_eq_getElem hs]
      rw [← htk, List.getElem?_take_of_lt hj', Array.getElem?_toList] at e1
      exact e1
    have eg : ∀ args w, (callFunc 53 args).run Try.prog w = .ok (.enter 53 args) w := enters_of Try.func53 (by kernel_rfl) rfl
    have hcmp : CmpLays Try.prog 53 #[] rcV 4 edgeCmp g 0 l.toArray.size w := fun _ _ _ _ x y => impl_compareEdges x y _
    have hcon := AnyQ.slices_SortFunc_eq Try.sortE 4 Try.isAgg38 Try.sizeOf38 rcV (fun _ => rfl) rcV_one edgeCmp edge_swo 53 #[] g 0 cap l.toArray w eg hcmp hH hgl (by simp; omega)
    refine (show Calls Try.prog _ _ _ _ from hcon).mono ?_
    rintro e w' ⟨he, n, os, rfl⟩
    refine ⟨he, ?_, grownBy_putId _⟩
    have hds : (pdq (ltOf edgeCmp) l.toArray 0 l.toArray.size (Lib.bitLen l.toArray.size) true true) = (sortE l).toArray := rfl
    have hfs : (flatK rcV 4 (sortE l).toArray).size = l.length * 4 := by rw [size_flatK]; simp [hlen]
    have hcl : l.length * 4 ≤ cur.size := by rw [hcs]; omega
    refine ⟨rowL_length _, .inr ⟨g, cap, _, rfl, hbase, heap_putId _ hg, by omega, hcm, by simp [putCells, hcs], ?_⟩⟩
    rw [hds, hlen, ← hfs, take_putId _ _ (by omega), flat_rowL]
end Go.Proofs.Ytldgjocjcbhkmab
