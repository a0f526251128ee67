/- Contracts: the numbers that the laws draw from a code, and the laws' own helpers on drawn lists of rectangles. -/
import Derived.Test.YtldgjocjcbhkmaaLawS
import Derived.StillTailTactics
namespace Go.Proofs.Ytldgjocjcbhkmaa
open Go.RowKit
attribute [local go_sem low] cell_alloc_ite frozen_alloc_ite

/-- Some n bytes lie behind the slice's address a, wherever, below block B. -/
def InBytes (B : Nat) (w : World) (a : Option Addr) (n : Nat) : Prop := ∀ i, i < n → ∃ (g off : Nat) (b : Int), a = some ⟨g, off, none⟩ ∧ g < B ∧ 0 ≤ b ∧ b < 256 ∧ w.cell? ⟨g, off + i, none⟩ = some (.int .u8 b)
theorem InBytes.below {B C : Nat} {w w' : World} {a : Option Addr} {n : Nat} (h : InBytes B w a n) (hb : Below C w w') (hc : B ≤ C) : InBytes B w' a n := fun i hi => by
  obtain ⟨g, off, b, ha, hg, h0, h1, c⟩ := h i hi
  exact ⟨g, off, b, ha, hg, h0, h1, (hb.cell (p := ⟨g, _, none⟩) (Nat.lt_of_lt_of_le hg hc)).trans c⟩
theorem InBytes.mono {B C : Nat} {w : World} {a : Option Addr} {n : Nat} (h : InBytes B w a n) (hc : B ≤ C) : InBytes C w a n := fun i hi => by
  obtain ⟨g, off, b, ha, hg, c⟩ := h i hi
  exact ⟨g, off, b, ha, Nat.lt_of_lt_of_le hg hc, c⟩
theorem bytes_at {W w : World} {a : Option Addr} {n : Nat} (h : InBytes W.heap.size W a n) (hb : Below W.heap.size W w) : InBytes w.heap.size w a n := (h.below hb (Nat.le_refl _)).mono hb.size

/-- A source of numbers in block g, from block B on; its code lies below B. -/
def srcV (ca : Option Addr) (n cc q : Nat) (seed : Int) : Nat → Value := fun j => if j = 0 then .slice ca n cc else if j = 1 then .int .i64 (q : Int) else .int .i64 seed
structure Src (B : Nat) (w : World) (g : Nat) (ca : Option Addr) (n cc q : Nat) (seed : Int) : Prop where
  lo : B ≤ g
  row : w.rowIs g 123 3 (srcV ca n cc q seed)
  len : n ≤ 5000
  at1 : q ≤ n
  s0 : 0 ≤ seed
  s1 : seed < 2147483647
  bytes : InBytes B w ca n
def IsSrc (B : Nat) (w : World) (g : Nat) : Prop := ∃ ca n cc q seed, Src B w g ca n cc q seed
theorem Src.cells {B g n cc q : Nat} {w : World} {ca : Option Addr} {seed : Int} (h : Src B w g ca n cc q seed) :
    w.cell? ⟨g, 0, none⟩ = some (.slice ca n cc) ∧ w.cell? ⟨g, 1, none⟩ = some (.int .i64 (q : Int)) ∧ w.cell? ⟨g, 2, none⟩ = some (.int .i64 seed) :=
  ⟨h.row.cell (by omega), h.row.cell (i := 1) (by omega), h.row.cell (i := 2) (by omega)⟩
theorem Src.lt {B g n cc q : Nat} {w : World} {ca : Option Addr} {seed : Int} (h : Src B w g ca n cc q seed) : g < w.heap.size := h.row.lt
theorem InBytes.grown {B : Nat} {w w' : World} {a : Option Addr} {n g : Nat} (h : InBytes B w a n) (hg : w.grownBy w' (some g)) (hB : B ≤ g) : InBytes B w' a n := fun i hi => by
  obtain ⟨k, off, b, ha, hk, h0, h1, c⟩ := h i hi
  exact ⟨k, off, b, ha, hk, h0, h1, hg.cell c (by intro e; simp only [Option.some.injEq] at e; omega)⟩
theorem grown_set (w : World) (g j : Nat) (u : Value) : w.grownBy (w.setCell ⟨g, j, none⟩ u) (some g) :=
  ⟨rfl, rfl, rfl, by simp [World.setCell], fun k _ hne => Below.heap_setCell w ⟨g, j, none⟩ u k (fun e => hne (by rw [e]))⟩
theorem Src.setAt {B g n cc q : Nat} {w : World} {ca : Option Addr} {seed : Int} (h : Src B w g ca n cc q seed) {m : Nat} (h1 : m ≤ n) : Src B (w.setCell ⟨g, 1, none⟩ (.int .i64 (m : Int))) g ca n cc m seed :=
  ⟨h.lo, (h.row.set 1 (.int .i64 (m : Int))).congr fun i hi => by
    have : i = 0 ∨ i = 1 ∨ i = 2 := by omega
    rcases this with rfl | rfl | rfl <;> rfl, h.len, h1, h.s0, h.s1, h.bytes.grown (grown_set ..) h.lo⟩
theorem Src.setAt' {B g n cc q : Nat} {w : World} {ca : Option Addr} {seed : Int} (h : Src B w g ca n cc q seed) {m : Nat} {z : Int} (h1 : m ≤ n) (hz : z = (m : Int)) : Src B (w.setCell ⟨g, 1, none⟩ (.int .i64 z)) g ca n cc m seed := by
  subst hz; exact h.setAt h1
theorem Src.setSeed {B g n cc q : Nat} {w : World} {ca : Option Addr} {seed : Int} (h : Src B w g ca n cc q seed) {m : Int} (h0 : 0 ≤ m) (h1 : m < 2147483647) : Src B (w.setCell ⟨g, 2, none⟩ (.int .i64 m)) g ca n cc q m :=
  ⟨h.lo, (h.row.set 2 (.int .i64 m)).congr fun i hi => by
    have : i = 0 ∨ i = 1 ∨ i = 2 := by omega
    rcases this with rfl | rfl | rfl <;> rfl, h.len, h.at1, h0, h1, h.bytes.grown (grown_set ..) h.lo⟩
theorem Src.kept {B g n cc q : Nat} {w w' : World} {ca : Option Addr} {seed : Int} (h : Src B w g ca n cc q seed) (hb : Below w.heap.size w w') : Src B w' g ca n cc q seed :=
  ⟨h.lo, h.row.of_block (hb.block g h.lt), h.len, h.at1, h.s0, h.s1, h.bytes.below hb (Nat.le_of_lt (Nat.lt_of_le_of_lt h.lo h.lt))⟩
theorem IsSrc.kept {B g : Nat} {w w' : World} (h : IsSrc B w g) (hb : Below w.heap.size w w') : IsSrc B w' g := by
  obtain ⟨ca, n, cc, q, seed, h⟩ := h
  exact ⟨ca, n, cc, q, seed, h.kept hb⟩
theorem IsSrc.lt {B g : Nat} {w : World} (h : IsSrc B w g) : g < w.heap.size := by
  obtain ⟨ca, n, cc, q, seed, h⟩ := h
  exact h.lt
theorem IsSrc.lo {B g : Nat} {w : World} (h : IsSrc B w g) : B ≤ g := by
  obtain ⟨ca, n, cc, q, seed, h⟩ := h
  exact h.lo
theorem grown_of_below {w w' : World} (h : Below w.heap.size w w') (row : Option Nat) : w.grownBy w' row := ⟨h.os, h.tape, h.output, h.size, fun k hk _ => h.block k hk⟩
theorem below_src {B g : Nat} {w0 w w' : World} (hb : Below B w0 w) (hB : B ≤ w.heap.size) (hg : w.grownBy w' (some g)) (hl : B ≤ g) : Below B w0 w' :=
  hb.grown hg hB fun k e => by cases e; exact hl

set_option maxRecDepth 100000 in
set_option maxHeartbeats 400000 in
theorem laws_big (n cap : Nat) (a : Option Addr) (w : World) : Calls Try.prog 24 #[.slice a n cap] w fun e w' => e = .returned (.bool (decide ((n : Int) > 4096))) ∧ w = w' := by
  go_enter Try.func24, Try.ntmps24
  go_wp2
  go_ret
  exact ⟨rfl, rfl⟩
set_option maxRecDepth 100000 in
set_option maxHeartbeats 1600000 in
theorem laws_sameRects (l m : List Rc) (a a' : Option Addr) (cap cap' : Nat) (w : World) (h : RectsAt w.heap.size w a l) (h' : RectsAt w.heap.size w a' m) (hn : l.length ≤ 2000000) (_hn' : m.length ≤ 2000000) :
    Calls Try.prog 29 #[.slice a l.length cap, .slice a' m.length cap'] w fun e w' => e = .returned (.bool (decide (l = m))) ∧ Below w.heap.size w w' := by
  by_cases hlen : l.length = m.length
  · go_enter Try.func29, Try.ntmps29
    go_wp2_with fail
    go_loopw [5] (fun sk wr => ∃ i : Nat, i ≤ l.length ∧ sk = .int .i64 i ∧ l.take i = m.take i ∧ Below w.heap.size w wr) (fun k _ => l.length - (intOf k).toNat)
    case atStart => exact ⟨0, Nat.zero_le _, rfl, rfl, (by repeat (first | with_reducible exact Below.refl _ _ | with_reducible assumption | with_reducible refine bel_alloc ?_ _ | with_reducible refine bel_drew ?_ | with_reducible refine bel_drewN ?_ _ | with_reducible refine bel_set ?_ (by (try simp) <;> omega) _ | with_reducible refine bel_trans ?_ (by assumption)))⟩
    case round =>
      obtain ⟨i, hi, rfl, hall, hbl⟩ := hrel
      have HA := hide hall
      clear hall
      by_cases hy : i < l.length
      · have hy' : i < m.length := by omega
        obtain ⟨g, ha, hg, c0, c1, c2, c3⟩ := h.below hbl (Nat.le_refl _) i l[i] (List.getElem?_eq_getElem hy)
        obtain ⟨g', ha', hg', c0', c1', c2', c3'⟩ := h'.below hbl (Nat.le_refl _) i m[i] (List.getElem?_eq_getElem hy')
        subst ha
        subst ha'
        obtain ⟨q0, hq0⟩ : ∃ q, q = (l[i].x0 == m[i].x0) := ⟨_, rfl⟩
        obtain ⟨q1, hq1⟩ : ∃ q, q = (l[i].y0 == m[i].y0) := ⟨_, rfl⟩
        obtain ⟨q2, hq2⟩ : ∃ q, q = (l[i].x1 == m[i].x1) := ⟨_, rfl⟩
        obtain ⟨q3, hq3⟩ : ∃ q, q = (l[i].y1 == m[i].y1) := ⟨_, rfl⟩
        have hq : l[i] = m[i] ↔ (q0 && q1 && q2 && q3) = true := by
          rw [hq0, hq1, hq2, hq3]
          simp only [Bool.and_eq_true, beq_iff_eq]
          exact ⟨fun e => by rw [e]; exact ⟨⟨⟨rfl, rfl⟩, rfl⟩, rfl⟩, fun e => Rc.ext' e.1.1.1 e.1.1.2 e.1.2 e.2⟩
        have HQ := hide hq
        clear hq
        replace hq0 := hq0.symm
        replace hq1 := hq1.symm
        replace hq2 := hq2.symm
        replace hq3 := hq3.symm
        go_wp2_with fail
        cases q0 <;> cases q1 <;> cases q2 <;> cases q3 <;> (go_quiet (fail)) <;> go_wp2
        case roundEnd =>
          go_roundw
          case rel => exact ⟨i + 1, hy, by go_num, take_eq_succ hy hy' HA.out (HQ.out.2 rfl), (by repeat (first | with_reducible exact Below.refl _ _ | with_reducible assumption | with_reducible refine bel_alloc ?_ _ | with_reducible refine bel_drew ?_ | with_reducible refine bel_drewN ?_ _ | with_reducible refine bel_set ?_ (by (try simp) <;> omega) _ | with_reducible refine bel_trans ?_ (by assumption)))⟩
          case measure => simp [intOf]; omega
        all_goals
          go_ret
          exact ⟨by rw [decide_eq_false (ne_of_at hy hy' fun e => absurd (HQ.out.1 e) (by simp))]; rfl, (by repeat (first | with_reducible exact Below.refl _ _ | with_reducible assumption | with_reducible refine bel_alloc ?_ _ | with_reducible refine bel_drew ?_ | with_reducible refine bel_drewN ?_ _ | with_reducible refine bel_set ?_ (by (try simp) <;> omega) _ | with_reducible refine bel_trans ?_ (by assumption)))⟩
      · go_wp2
        go_ret
        have := HA.out
        rw [List.take_of_length_le (by omega), List.take_of_length_le (by omega)] at this
        exact ⟨by simp [this], hbl⟩
  · have hne : ¬ l = m := fun e => hlen (by rw [e])
    go_enter Try.func29, Try.ntmps29
    go_wp2
    go_ret
    exact ⟨by simp [hne], (by repeat (first | with_reducible exact Below.refl _ _ | with_reducible assumption | with_reducible refine bel_alloc ?_ _ | with_reducible refine bel_drew ?_ | with_reducible refine bel_drewN ?_ _ | with_reducible refine bel_set ?_ (by (try simp) <;> omega) _ | with_reducible refine bel_trans ?_ (by assumption)))⟩
/-! ### append of a list to an own row -/
theorem rects_cells {B g : Nat} {w : World} {l : List Rc} (h : RectsAt B w (some ⟨g, 0, none⟩) l) : ∀ j u, (rowL l)[j]? = some u → w.cell? ((⟨g, 0, none⟩ : Addr).add j) = some u := by
  intro j u hu
  have hj : j < l.length * 4 := by
    have := (List.getElem?_eq_some_iff.1 hu).1
    rw [rowL_length] at this
    exact this
  obtain ⟨i, q, hq, rfl⟩ : ∃ i q : Nat, q < 4 ∧ j = i * 4 + q := ⟨j / 4, j % 4, by omega, by omega⟩
  have hi : i < l.length := by omega
  obtain ⟨g', hg', _, c0, c1, c2, c3⟩ := h i l[i] (List.getElem?_eq_getElem hi)
  simp only [Option.some.injEq, Addr.mk.injEq, and_true] at hg'
  subst hg'
  obtain ⟨r0, r1, r2, r3⟩ := rowL_get l i hi
  have hadd : ∀ j : Nat, (⟨g, 0, none⟩ : Addr).add j = ⟨g, j, none⟩ := fun j => by rw [Addr.add_mid]; congr 1; omega
  rw [hadd]
  have : q = 0 ∨ q = 1 ∨ q = 2 ∨ q = 3 := by omega
  rcases this with rfl | rfl | rfl | rfl
  · rw [Nat.add_zero] at hu ⊢; rw [r0] at hu; rw [c0]; exact hu
  · rw [r1] at hu; rw [c1]; exact hu
  · rw [r2] at hu; rw [c2]; exact hu
  · rw [r3] at hu; rw [c3]; exact hu
theorem rowL_cells (l : List Rc) : ∀ u ∈ rowL l, u.oneCell' = true := by
  intro u hu
  obtain ⟨r, _, hr⟩ := List.mem_flatMap.1 hu
  exact rcV_one r u hr
theorem run_append_none (P : Program) (w : World) (base : Nat) (t ty e : TypeId) (i : TypeInfo) (size c : Nat) (ht : P.underlying t = some (.slice e)) (hi : P.info? e = some i)
    (v : Value) (n : Nat) (xs : List Value) (hown : w.ownsRow base e size v n xs) :
    (Builtin.append_ #[t, t] ty #[v, .slice none 0 c]).run P w = .ok v w := by
  rcases hown.2 with ⟨rfl, rfl⟩ | ⟨g, cap, cur, rfl, _, _, hnc, _⟩
  · simp [Builtin.append_, run_underlying ht, sizeOf, typeInfo, hi, Builtin.lenOf, Builtin.firstCells]
  · simp [Builtin.append_, run_underlying ht, sizeOf, typeInfo, hi, Builtin.lenOf, Builtin.firstCells, hnc, storeCells]
theorem wpList_append_rects {w : World} {ops : Array Oper} {rest : List Oper} {o : Oper} {a : Act} {Q : Exit → Act → World → Prop} (hgd : o.guard = none) (s x : Operand)
    (ho : o.op = .call { callee := .builtin .append, args := #[s, x], argTypes := #[24, 24] })
    (base : Nat) (v : Value) (l : List Rc) (hs : a.eval s = v) (hown : OwnRects w base v l)
    (ad : Option Addr) (m : List Rc) (B c : Nat) (hx : a.eval x = .slice ad m.length c) (hm : RectsAt B w ad m) (hlen : l.length + m.length ≤ 3000000) (hbase : base ≤ w.heap.size)
    (h : ∀ v' w', OwnRects w' base v' (l ++ m) → w.grownBy w' v.ownBlock → wpList Try.prog ops Q rest (a.put o.dst v') w') : wpList Try.prog ops Q (o :: rest) a w := by
  obtain ⟨ii, hii, hiz⟩ := Option.map_eq_some_iff.1 rect_info
  simp only [Prod.mk.injEq] at hiz
  obtain ⟨hz, hsz, hby⟩ := hiz
  unfold OwnRects at hown h
  by_cases hne : m = []
  · subst hne
    simp only [List.append_nil] at h
    cases ad with
    | none =>
      refine wpList_plain hgd fun K hK => ?_
      have hrun := run_append_none Try.prog w base 24 o.type 39 ii 4 c Try.underlying24 hii v l.length (rowL l) hown
      unfold Oper.wp
      simp only [List.length_nil] at hx
      simp [execOp, ho, resolve, invoke, builtin, hs, hx, hrun, Result.andThen]
      exact hK _ _ (h v w hown (grown_of_below (Below.refl _ _) _))
    | some ad =>
      refine wpList_append_own w hgd s x 24 ho base 39 ii _ 4 32 Try.underlying24 hii hz hsz hby rfl (by decide) v l.length (rowL l) hs hown ad 0 c [] hx rfl (fun j u hu => by simp at hu) (fun u hu => by simp at hu)
        (by simp only [List.length_nil] at hlen; unfold maxLen; omega) (by simp only [List.length_nil] at hlen; omega) hbase fun v' w' h1 h2 _ => h v' w' (by simpa using h1) h2
  · obtain ⟨r, m', rfl⟩ : ∃ r m', m = r :: m' := by cases m with
      | nil => exact absurd rfl hne
      | cons r m' => exact ⟨r, m', rfl⟩
    obtain ⟨g, rfl, _⟩ := hm 0 r rfl
    refine wpList_append_own w hgd s x 24 ho base 39 ii _ 4 32 Try.underlying24 hii hz hsz hby rfl (by decide) v l.length (rowL l) hs hown ⟨g, 0, none⟩ (r :: m').length c (rowL (r :: m')) hx (rowL_length _) (rects_cells hm) (rowL_cells _)
      (by unfold maxLen; omega) (by omega) hbase fun v' w' h1 h2 _ => h v' w' (by rw [List.length_append, rowL_append]; exact h1) h2
set_option maxRecDepth 100000 in
set_option maxHeartbeats 1600000 in
theorem laws_copyRects (l : List Rc) (a : Option Addr) (cap : Nat) (w : World) (h : RectsAt w.heap.size w a l) (hn : l.length ≤ 2000000) : Calls Try.prog 34 #[.slice a l.length cap] w (RetS w l) := by
  have ho : OwnRects (w.alloc (.cells #[] 39)) w.heap.size (.slice (some ⟨w.heap.size, 0, none⟩) 0 0) [] := World.ownsRow_lit w #[] 0 (Nat.le_refl _) (by simp [maxLen]) rfl
  have HO := hide ho
  clear ho
  go_enter Try.func34, Try.ntmps34
  go_wp2_with (at_builtin; refine wpList_append_rects rfl _ _ rfl w.heap.size _ [] rfl HO.out a l w.heap.size cap rfl (h.below (bel_alloc (Below.refl _ _) _) (Nat.le_refl _)) (by simp; omega) (by simp) ?_; intro v' w1 ho1 hg1)
  go_ret
  obtain ⟨a1, c1, rfl⟩ := own_slice ho1
  exact ⟨a1, c1, rfl, ho1, (Below.refl _ _).alloc (Nat.le_refl _) _ |>.grown hg1 (by simp) fun k e => by cases e; exact Nat.le_refl _⟩
set_option maxRecDepth 100000 in
set_option maxHeartbeats 1600000 in
theorem spec_l01From (n cap : Nat) (a : Option Addr) (w : World) (h : InBytes w.heap.size w a n) (hn : n ≤ 5000) : Calls Try.prog 80 #[.slice a n cap] w
    fun e w' => ∃ g, e = .returned (.pointer (some ⟨g, 0, none⟩)) ∧ IsSrc w.heap.size w' g ∧ Below w.heap.size w w' := by
  go_enter Try.func80, Try.ntmps80
  go_wp2_with fail
  go_loopw [4] (fun s wr => ∃ (i : Nat) (seed : Int), i ≤ n ∧ s = .int .i64 i ∧ Src w.heap.size wr w.heap.size a n cap 0 seed ∧ Below w.heap.size w wr) (fun s _ => n - (intOf s).toNat)
  case atStart =>
    refine ⟨0, 12345, Nat.zero_le _, rfl, ⟨Nat.le_refl _, ?_, hn, Nat.zero_le _, by omega, by omega, h.below (bel_alloc (Below.refl _ _) _) (Nat.le_refl _)⟩, (by repeat (first | with_reducible exact Below.refl _ _ | with_reducible assumption | with_reducible refine bel_alloc ?_ _ | with_reducible refine bel_drew ?_ | with_reducible refine bel_drewN ?_ _ | with_reducible refine bel_set ?_ (by (try simp) <;> omega) _ | with_reducible refine bel_trans ?_ (by assumption)))⟩
    refine World.rowIs_alloc w #[.slice a n cap, .int .i64 0, .int .i64 12345] 123 _ fun i hi => ?_
    have : i = 0 ∨ i = 1 ∨ i = 2 := by simp at hi; omega
    rcases this with rfl | rfl | rfl <;> rfl
  case round =>
    obtain ⟨i, seed, hi, rfl, hs, hbl⟩ := hrel
    obtain ⟨k0, k1, k2⟩ := hs.cells
    have hs0 := hs.s0
    have hs1 := hs.s1
    have f2 := hs.row.frozen 2
    have HS := hide hs
    clear hs
    by_cases hy : (i : Int) < (n : Int)
    · by_cases h6 : (i : Int) < 64
      · obtain ⟨cb, off, b, hca, hcb, b0, b1, kb⟩ := HS.out.bytes i (by omega)
        subst hca
        go_wp2_with fail
        go_still_tail 15, (by kernel_rfl)
        repeat still_step
        try refine wpStill_nil ?_
        change wpList _ _ _ _ _ (World.drew _)
        go_wp2_with fail
        go_roundw
        case rel => exact ⟨i + 1, _, by omega, by go_num, (HS.out.kept (bel_drew (Below.refl _ _))).setSeed (Int.emod_nonneg _ (by omega)) (Int.emod_lt_of_pos _ (by omega)), hbl.drew.setCell (Nat.le_refl _) _⟩
        case measure => simp [intOf]; omega
      · go_wp2_with fail
        go_ret
        exact ⟨_, rfl, ⟨_, _, _, _, _, HS.out⟩, hbl⟩
    · go_wp2_with fail
      go_ret
      exact ⟨_, rfl, ⟨_, _, _, _, _, HS.out⟩, hbl⟩
theorem drawn_src {B g n cc q : Nat} {w : World} {ca : Option Addr} {seed : Int} (h : Src B w g ca n cc q seed) : IsSrc B w g := ⟨_, _, _, _, _, h⟩
set_option maxRecDepth 100000 in
set_option maxHeartbeats 1600000 in
theorem spec_l01Next (B g : Nat) (n : Int) (hn : 1 ≤ n ∧ n ≤ 1000000) (w : World) (h : IsSrc B w g) : Calls Try.prog 81 #[.pointer (some ⟨g, 0, none⟩), .int .i64 n] w
    fun e w' => ∃ v : Int, e = .returned (.int .i64 v) ∧ 0 ≤ v ∧ v < n ∧ IsSrc B w' g ∧ w.grownBy w' (some g) := by
  obtain ⟨ca, m, cc, q, seed, hs⟩ := h
  obtain ⟨hn1, hn2⟩ := hn
  obtain ⟨k0, k1, k2⟩ := hs.cells
  have hs0 := hs.s0
  have hs1 := hs.s1
  have hq1 := hs.at1
  have hlen := hs.len
  have hfz := hs.row.frozen
  have f1 := hfz 1
  have f2 := hfz 2
  clear hfz
  have HS := hide hs
  clear hs
  by_cases h1 : n ≤ 1
  · go_enter Try.func81, Try.ntmps81
    go_wp2_with fail
    go_ret
    exact ⟨0, rfl, by omega, by omega, drawn_src HS.out, grown_of_below (Below.refl _ _) _⟩
  · by_cases h2 : (q : Int) < (m : Int)
    · obtain ⟨cb, off, b, hca, hcb, b0, b1, kb⟩ := HS.out.bytes q (by omega)
      subst hca
      go_enter Try.func81, Try.ntmps81
      go_wp2_with fail
      go_quiet (fail)
      go_wp2_with fail
      go_quiet (fail)
      go_wp2_with fail
      · go_ret
        refine ⟨_, rfl, Int.emod_nonneg _ (by omega), Int.emod_lt_of_pos _ (by omega), drawn_src (((HS.out.kept (bel_drewN (Below.refl _ _) _)).setAt' (m := q + 1) (by omega) (by omega)).setSeed (Int.emod_nonneg _ (by omega)) (Int.emod_lt_of_pos _ (by omega))),
          ((grown_of_below (bel_drewN (Below.refl _ _) _) _).trans (grown_set _ _ _ _)).trans (grown_set _ _ _ _)⟩
      · go_ret
        exact ⟨_, rfl, Int.emod_nonneg _ (by omega), Int.emod_lt_of_pos _ (by omega), drawn_src ((HS.out.kept (bel_drewN (Below.refl _ _) _)).setAt' (m := q + 1) (by omega) (by omega)),
          (grown_of_below (bel_drewN (Below.refl _ _) _) _).trans (grown_set _ _ _ _)⟩
    · go_enter Try.func81, Try.ntmps81
      go_wp2_with fail
      go_quiet (fail)
      go_wp2_with fail
      go_ret
      exact ⟨_, rfl, Int.emod_nonneg _ (by omega), Int.emod_lt_of_pos _ (by omega), drawn_src ((HS.out.kept (bel_drewN (Below.refl _ _) _)).setSeed (Int.emod_nonneg _ (by omega)) (Int.emod_lt_of_pos _ (by omega))),
        (grown_of_below (bel_drewN (Below.refl _ _) _) _).trans (grown_set _ _ _ _)⟩
end Go.Proofs.Ytldgjocjcbhkmaa
