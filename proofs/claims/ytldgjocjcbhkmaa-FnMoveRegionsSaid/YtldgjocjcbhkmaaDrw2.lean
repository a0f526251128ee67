/- Contracts: drawn rectangles and regions. -/
import Derived.Test.YtldgjocjcbhkmaaDrw
import Derived.Deep.RegionHeld3
namespace Go.Proofs.Ytldgjocjcbhkmaa
open Go.RowKit
attribute [local go_sem high] run_max2 run_min2
attribute [local go_sem low] cell_alloc_ite frozen_alloc_ite

/-- What a draw from a source leaves: the source goes on, nothing else has turned. -/
def Drawn (B g : Nat) (w w' : World) : Prop := IsSrc B w' g ∧ w.grownBy w' (some g)
theorem Drawn.trans {B g : Nat} {a b c : World} (h : Drawn B g a b) (k : Drawn B g b c) : Drawn B g a c := ⟨k.1, h.2.trans k.2⟩
theorem Drawn.refl {B g : Nat} {w : World} (h : IsSrc B w g) : Drawn B g w w := ⟨h, grown_of_below (Below.refl _ _) _⟩
theorem Drawn.more {B g : Nat} {a b c : World} (h : Drawn B g a b) (k : Below b.heap.size b c) : Drawn B g a c := ⟨h.1.kept k, h.2.trans (grown_of_below k _)⟩
theorem Drawn.alloc {B g : Nat} {a b : World} (h : Drawn B g a b) (o : Obj) : Drawn B g a (b.alloc o) := h.more (bel_alloc (Below.refl _ _) _)
theorem Drawn.drew {B g : Nat} {a b : World} (h : Drawn B g a b) : Drawn B g a b.drew := h.more (bel_drew (Below.refl _ _))
theorem Drawn.below {B g : Nat} {w0 w w' : World} (h : Drawn B g w w') (hb : Below B w0 w) (hB : B ≤ w.heap.size) : Below B w0 w' := below_src hb hB h.2 h.1.lo
theorem Drawn.set {B g b : Nat} {w w' : World} (h0 : IsSrc B w g) (h : Drawn B g w w') (hb : w.heap.size ≤ b) (j : Nat) (u : Value) : Drawn B g w (w'.setCell ⟨b, j, none⟩ u) := by
  obtain ⟨⟨ca, n, cc, q, seed, hs⟩, hg⟩ := h
  have hlt := h0.lt
  have hlo := h0.lo
  have hBb : B ≤ b := by omega
  have hbel : Below B w' (w'.setCell ⟨b, j, none⟩ u) := (Below.refl _ _).setCell hBb u
  refine ⟨⟨ca, n, cc, q, seed, hs.lo, hs.row.setOther (by simp; omega) u, hs.len, hs.at1, hs.s0, hs.s1, hs.bytes.below hbel (Nat.le_refl _)⟩, hg.os, hg.tape, hg.output, by have := hg.size; simpa [World.setCell] using this, fun k hk hne => ?_⟩
  rw [Below.heap_setCell _ _ _ _ (by simp; omega)]
  exact hg.block k hk hne
theorem grown_cell {g b j : Nat} {w w' : World} {v : Value} (hg : w.grownBy w' (some g)) (hne : b ≠ g) (h : w.cell? ⟨b, j, none⟩ = some v) : w'.cell? ⟨b, j, none⟩ = some v := hg.cell h (by simpa using hne)
theorem grown_frozen {g b j : Nat} {w w' : World} {v : Value} (hg : w.grownBy w' (some g)) (hne : b ≠ g) (h : w.cell? ⟨b, j, none⟩ = some v) (hf : w.frozen? ⟨b, j, none⟩ = false) : w'.frozen? ⟨b, j, none⟩ = false :=
  (World.frozen?_of_block (hg.block b (World.block_lt_of_cell? _ _ h) (by simpa using hne))).trans hf
/-- Four cells of block b, to be written. -/
structure Cells4 (w : World) (b : Nat) (x0 x1 x2 x3 : Value) : Prop where
  c0 : w.cell? ⟨b, 0, none⟩ = some x0
  c1 : w.cell? ⟨b, 1, none⟩ = some x1
  c2 : w.cell? ⟨b, 2, none⟩ = some x2
  c3 : w.cell? ⟨b, 3, none⟩ = some x3
  f0 : w.frozen? ⟨b, 0, none⟩ = false
  f1 : w.frozen? ⟨b, 1, none⟩ = false
  f2 : w.frozen? ⟨b, 2, none⟩ = false
  f3 : w.frozen? ⟨b, 3, none⟩ = false
theorem Cells4.kept {w w' : World} {b g : Nat} {x0 x1 x2 x3 : Value} (h : Cells4 w b x0 x1 x2 x3) (hg : w.grownBy w' (some g)) (hne : b ≠ g) : Cells4 w' b x0 x1 x2 x3 :=
  ⟨grown_cell hg hne h.c0, grown_cell hg hne h.c1, grown_cell hg hne h.c2, grown_cell hg hne h.c3, grown_frozen hg hne h.c0 h.f0, grown_frozen hg hne h.c1 h.f1, grown_frozen hg hne h.c2 h.f2, grown_frozen hg hne h.c3 h.f3⟩
theorem Cells4.bel {w w' : World} {b : Nat} {x0 x1 x2 x3 : Value} (h : Cells4 w b x0 x1 x2 x3) (hb : Below w.heap.size w w') : Cells4 w' b x0 x1 x2 x3 := by
  have hne : b ≠ w.heap.size := Nat.ne_of_lt (World.block_lt_of_cell? _ _ h.c0)
  exact h.kept (g := w.heap.size) ⟨hb.os, hb.tape, hb.output, hb.size, fun k hk _ => hb.block k hk⟩ hne
theorem pick_vals {p : Nat → Value → Prop} : ∀ n, (∀ i, i < n → ∃ x, p i x) → ∃ xs : List Value, xs.length = n ∧ ∀ i x, xs[i]? = some x → p i x
  | 0, _ => ⟨[], rfl, fun i x h => by simp at h⟩
  | n + 1, h => by
    obtain ⟨xs, hl, hp⟩ := pick_vals n fun i hi => h i (by omega)
    obtain ⟨y, hy⟩ := h n (by omega)
    refine ⟨xs ++ [y], by simp [hl], fun i x hx => ?_⟩
    by_cases hi : i < n
    · rw [List.getElem?_append_left (by omega)] at hx
      exact hp i x hx
    · rw [List.getElem?_append_right (by omega)] at hx
      by_cases e : i = n
      · subst e
        simp only [hl, Nat.sub_self, List.getElem?_cons_zero, Option.some.injEq] at hx
        exact hx ▸ hy
      · rw [List.getElem?_eq_none (by simp; omega)] at hx
        exact absurd hx (by simp)
theorem byte_info : (Try.prog.info? 5).map (fun i => (i.zero, i.size, i.bytes)) = some (some (.int .u8 0), 1, 1) := by kernel_rfl
theorem wpList_append_bytes {w : World} {ops : Array Oper} {rest : List Oper} {o : Oper} {a : Act} {Q : Exit → Act → World → Prop} (hgd : o.guard = none) (s x : Operand)
    (ho : o.op = .call { callee := .builtin .append, args := #[s, x], argTypes := #[33, 33] })
    (base : Nat) (v : Value) (k : Nat) (l : List Value) (hs : a.eval s = v) (hown : w.ownsRow base 5 1 v k l)
    (ad : Option Addr) (m B c : Nat) (hx : a.eval x = .slice ad m c) (hm : InBytes B w ad m) (hlen : k + m ≤ 3000000) (hbase : base ≤ w.heap.size)
    (h : ∀ v' w' (news : List Value), news.length = m → (∀ (i : Nat) (u : Value), news[i]? = some u → ∃ b : Int, u = Value.int .u8 b ∧ 0 ≤ b ∧ b < 256) → w'.ownsRow base 5 1 v' (k + m) (l ++ news) → w.grownBy w' v.ownBlock → wpList Try.prog ops Q rest (a.put o.dst v') w') :
    wpList Try.prog ops Q (o :: rest) a w := by
  obtain ⟨ii, hii, hiz⟩ := Option.map_eq_some_iff.1 byte_info
  simp only [Prod.mk.injEq] at hiz
  obtain ⟨hz, hsz, hby⟩ := hiz
  obtain ⟨news, hnl, hnews⟩ := pick_vals (p := fun i u => ∃ (g off : Nat) (b : Int), ad = some ⟨g, off, none⟩ ∧ w.cell? ⟨g, off + i, none⟩ = some u ∧ u = Value.int .u8 b ∧ 0 ≤ b ∧ b < 256) m fun i hi => by
    obtain ⟨g, off, b, ha, _, b0, b1, hc⟩ := hm i hi
    exact ⟨.int .u8 b, g, off, b, ha, hc, rfl, b0, b1⟩
  have hnb : ∀ (i : Nat) (u : Value), news[i]? = some u → ∃ b : Int, u = Value.int .u8 b ∧ 0 ≤ b ∧ b < 256 := fun i u hu => by
    obtain ⟨_, _, b, _, _, e, b0, b1⟩ := hnews i u hu
    exact ⟨b, e, b0, b1⟩
  cases ad with
  | none =>
    have hm0 : m = 0 := by
      rcases Nat.eq_zero_or_pos m with e | e
      · exact e
      · obtain ⟨_, _, _, he, _⟩ := hm 0 e
        exact absurd he (by simp)
    subst hm0
    obtain rfl : news = [] := List.length_eq_zero_iff.1 hnl
    refine wpList_plain hgd fun K hK => ?_
    have hrun := run_append_none Try.prog w base 33 o.type 5 ii 1 c Try.underlying33 hii v k l hown
    unfold Oper.wp
    simp [execOp, ho, resolve, invoke, builtin, hs, hx, hrun, Result.andThen]
    exact hK _ _ (h v w [] rfl hnb (by simpa using hown) (grown_of_below (Below.refl _ _) _))
  | some ad =>
    refine wpList_append_own w hgd s x 33 ho base 5 ii _ 1 1 Try.underlying33 hii hz hsz hby rfl (by decide) v k l hs hown ad m c news hx (by omega) (fun j u hu => ?_) (fun u hu => ?_)
      (by unfold maxLen; omega) (by omega) hbase fun v' w' h1 h2 _ => h v' w' news hnl hnb h1 h2
    · obtain ⟨g, off, _, he, hc, _⟩ := hnews j u hu
      simp only [Option.some.injEq] at he
      subst he
      rw [Addr.add_mid]
      exact hc
    · obtain ⟨i, hi, he⟩ := List.getElem_of_mem hu
      obtain ⟨b, e, _⟩ := hnb i u (by rw [List.getElem?_eq_getElem hi, he])
      rw [e]
      rfl
set_option maxRecDepth 100000 in
set_option maxHeartbeats 1600000 in
theorem laws_other (n cap : Nat) (k : Int) (hk : 0 ≤ k ∧ k < 50) (a : Option Addr) (w : World) (h : InBytes w.heap.size w a n) (hn : n ≤ 4990) : Calls Try.prog 43 #[.slice a n cap, .int .u8 k] w
    fun e w' => ∃ a' cap', e = .returned (.slice a' (3 + n) cap') ∧ InBytes w'.heap.size w' a' (3 + n) ∧ Below w.heap.size w w' := by
  obtain ⟨hk0, hk1⟩ := hk
  have ho : (w.alloc (.cells #[.int .u8 k, .int .u8 (k + 7), .int .u8 (3 * k)] 5)).ownsRow w.heap.size 5 1 (.slice (some ⟨w.heap.size, 0, none⟩) 3 3) 3 [.int .u8 k, .int .u8 (k + 7), .int .u8 (3 * k)] :=
    World.ownsRow_lit w #[.int .u8 k, .int .u8 (k + 7), .int .u8 (3 * k)] 3 (Nat.le_refl _) (by simp [maxLen]) rfl
  have HO := hide ho
  clear ho
  go_enter Try.func43, Try.ntmps43
  go_wp2_with (at_builtin; refine wpList_append_bytes rfl _ _ rfl w.heap.size _ 3 _ rfl HO.out a n w.heap.size cap rfl (h.below (bel_alloc (Below.refl _ _) _) (Nat.le_refl _)) (by omega) (by simp) ?_; intro v' w1 news hnl hnb ho1 hg1)
  refine bodyPost_ret (v := v') (by simp [results, Try.results43, go_sem]) rfl ?_
  rcases ho1.2 with ⟨_, h0⟩ | ⟨g1, c1, cur, rfl, hlo, hblk, hcap, _, _, htk⟩
  · omega
  · refine ⟨some ⟨g1, 0, none⟩, c1, rfl, fun i hi => ?_, (Below.refl _ _).alloc (Nat.le_refl _) _ |>.grown hg1 (by simp) fun k e => by cases e; exact Nat.le_refl _⟩
    have hc := ho1.cellAt i (by omega)
    have hlt : g1 < w1.heap.size := (Array.getElem?_eq_some_iff.1 hblk).1
    by_cases hi3 : i < 3
    · have : i = 0 ∨ i = 1 ∨ i = 2 := by omega
      rcases this with rfl | rfl | rfl
      · exact ⟨g1, 0, k, rfl, hlt, by omega, by omega, by simpa using hc⟩
      · exact ⟨g1, 0, k + 7, rfl, hlt, by omega, by omega, by simpa using hc⟩
      · exact ⟨g1, 0, 3 * k, rfl, hlt, by omega, by omega, by simpa using hc⟩
    · rw [List.getElem?_append_right (by simp; omega)] at hc
      have hi' : i - 3 < news.length := by omega
      have hg : news[i - 3]? = some news[i - 3] := List.getElem?_eq_getElem hi'
      obtain ⟨b, e, b0, b1⟩ := hnb _ _ hg
      refine ⟨g1, 0, b, rfl, hlt, b0, b1, ?_⟩
      rw [Nat.zero_add]
      simp only [List.length_cons, List.length_nil] at hc
      rw [hc]
      exact hg.trans (by rw [e])
/-- Draws one number; four cells of another block stay. -/
theorem draw_next {B g : Nat} {n : Int} (hn : 1 ≤ n ∧ n ≤ 1000000) {w0 w : World} (h : Drawn B g w0 w) : Calls Try.prog 81 #[.pointer (some ⟨g, 0, none⟩), .int .i64 n] w
    fun e w' => ∃ v : Int, e = .returned (.int .i64 v) ∧ 0 ≤ v ∧ v < n ∧ Drawn B g w0 w' ∧ w.grownBy w' (some g) :=
  (spec_l01Next B g n hn w h.1).mono fun _ _ ⟨v, he, h0, h1, h2, h3⟩ => ⟨v, he, h0, h1, h.trans ⟨h2, h3⟩, h3⟩
theorem draw_next4 {B g b : Nat} {n : Int} {x0 x1 x2 x3 : Value} (hn : 1 ≤ n ∧ n ≤ 1000000) {w0 w : World} (h : Drawn B g w0 w) (hne : b ≠ g) (hc : Cells4 w b x0 x1 x2 x3) : Calls Try.prog 81 #[.pointer (some ⟨g, 0, none⟩), .int .i64 n] w
    fun e w' => ∃ v : Int, e = .returned (.int .i64 v) ∧ 0 ≤ v ∧ v < n ∧ Drawn B g w0 w' ∧ Cells4 w' b x0 x1 x2 x3 ∧
      w'.cell? ⟨b, 0, none⟩ = some x0 ∧ w'.cell? ⟨b, 1, none⟩ = some x1 ∧ w'.cell? ⟨b, 2, none⟩ = some x2 ∧ w'.cell? ⟨b, 3, none⟩ = some x3 ∧
      w'.frozen? ⟨b, 0, none⟩ = false ∧ w'.frozen? ⟨b, 1, none⟩ = false ∧ w'.frozen? ⟨b, 2, none⟩ = false ∧ w'.frozen? ⟨b, 3, none⟩ = false :=
  (spec_l01Next B g n hn w h.1).mono fun _ _ ⟨v, he, h0, h1, h2, h3⟩ => by
    have hk := hc.kept h3 hne
    exact ⟨v, he, h0, h1, h.trans ⟨h2, h3⟩, hk, hk.c0, hk.c1, hk.c2, hk.c3, hk.f0, hk.f1, hk.f2, hk.f3⟩
theorem ok_drawn {x y a b : Int} (h0 : -40 ≤ x) (h1 : x ≤ 39) (h2 : -40 ≤ y) (h3 : y ≤ 39) (ha : 1 ≤ a) (hb : 1 ≤ b) : (Rc.mk x y (min 40 (x + a)) (min 40 (y + b))).ok = true := by
  refine vRect_iff.2 ⟨h0, ?_, ?_, h2, ?_, ?_⟩ <;> (simp only; omega)
set_option maxRecDepth 100000 in
set_option maxHeartbeats 3200000 in
theorem spec_l02DrawRect (B g : Nat) (w : World) (h : IsSrc B w g) : Calls Try.prog 83 #[.pointer (some ⟨g, 0, none⟩)] w
    fun e w' => ∃ r : Rc, r.ok = true ∧ e = .returned (.agg #[.int .i64 r.x0, .int .i64 r.y0, .int .i64 r.x1, .int .i64 r.y1]) ∧ Drawn B g w w' := by
  have hd0 := (Drawn.refl h).alloc (.cells #[.int .i64 0, .int .i64 0, .int .i64 0, .int .i64 0] 39)
  have hne : w.heap.size ≠ g := Nat.ne_of_gt h.lt
  have hc0 : Cells4 (w.alloc (.cells #[.int .i64 0, .int .i64 0, .int .i64 0, .int .i64 0] 39)) w.heap.size (.int .i64 0) (.int .i64 0) (.int .i64 0) (.int .i64 0) :=
    ⟨by simp [go_sem], by simp [go_sem], by simp [go_sem], by simp [go_sem], by simp [go_sem], by simp [go_sem], by simp [go_sem], by simp [go_sem]⟩
  go_enter Try.func83, Try.ntmps83
  go_wp2_with fail
  go_at_call 81
  refine (draw_next4 (by omega) hd0 hne hc0).mono ?_
  rintro e w1 ⟨v1, rfl, a1, b1, hd1, hc1, _, _, _, _, _, _, _, _⟩
  go_wp2_with fail
  go_at_call 81
  refine (draw_next4 (by omega) hd1 hne hc1).mono ?_
  rintro e w2 ⟨v2, rfl, a2, b2, hd2, hc2, _, _, _, _, _, _, _, _⟩
  go_wp2_with fail
  go_at_call 81
  refine (draw_next4 (by omega) hd2 hne hc2).mono ?_
  rintro e w3 ⟨v3, rfl, a3, b3, hd3, hc3, _, _, _, _, _, _, _, _⟩
  by_cases z3 : v3 = 0
  · subst z3
    go_wp2_with fail
    go_at_call 81
    refine (draw_next4 (by omega) hd3 hne hc3).mono ?_
    rintro e w4 ⟨v4, rfl, a4, b4, hd4, hc4, _, _, _, _, _, _, _, _⟩
    go_wp2_with fail
    go_at_call 81
    refine (draw_next4 (by omega) hd4 hne hc4).mono ?_
    rintro e w5 ⟨v5, rfl, a5, b5, hd5, hc5, _, _, _, _, _, _, _, _⟩
    by_cases z5 : v5 = 0
    · subst z5
      go_wp2_with fail
      go_at_call 81
      refine (draw_next4 (by omega) hd5 hne hc5).mono ?_
      rintro e w7 ⟨v7, rfl, a7, b7, hd7, hc7, _, _, _, _, _, _, _, _⟩
      go_wp2_with fail
      go_at_call 81
      refine (draw_next4 (by omega) hd7 hne hc7).mono ?_
      rintro e w8 ⟨v8, rfl, a8, b8, hd8, hc8, c0, c1, c2, c3, f0, f1, f2, f3⟩
      go_wp2_with fail
      refine bodyPost_ret (v := .agg #[.int .i64 ((39 - v4)), .int .i64 ((-40)), .int .i64 (min 40 ((39 - v4) + (v7 + 1))), .int .i64 (min 40 ((-40) + (v8 + 1)))]) (by first | (simp [results, Try.results83, go_sem, *]; done) | simp [results, Try.results83, go_sem, *, ↓IntWalk.iteOmega]) rfl ⟨⟨(39 - v4), (-40), min 40 ((39 - v4) + (v7 + 1)), min 40 ((-40) + (v8 + 1))⟩, ok_drawn (by omega) (by omega) (by omega) (by omega) (by omega) (by omega), rfl, ?_⟩
      exact Drawn.set h (Drawn.set h (Drawn.set h (Drawn.set h hd8 (Nat.le_refl _) _ _) (Nat.le_refl _) _ _) (Nat.le_refl _) _ _) (Nat.le_refl _) _ _
    · skip
      go_wp2_with fail
      go_at_call 81
      refine (draw_next4 (by omega) hd5 hne hc5).mono ?_
      rintro e w7 ⟨v7, rfl, a7, b7, hd7, hc7, _, _, _, _, _, _, _, _⟩
      go_wp2_with fail
      go_at_call 81
      refine (draw_next4 (by omega) hd7 hne hc7).mono ?_
      rintro e w8 ⟨v8, rfl, a8, b8, hd8, hc8, c0, c1, c2, c3, f0, f1, f2, f3⟩
      go_wp2_with fail
      refine bodyPost_ret (v := .agg #[.int .i64 ((39 - v4)), .int .i64 ((v2 - 12)), .int .i64 (min 40 ((39 - v4) + (v7 + 1))), .int .i64 (min 40 ((v2 - 12) + (v8 + 1)))]) (by first | (simp [results, Try.results83, go_sem, *]; done) | simp [results, Try.results83, go_sem, *, ↓IntWalk.iteOmega]) rfl ⟨⟨(39 - v4), (v2 - 12), min 40 ((39 - v4) + (v7 + 1)), min 40 ((v2 - 12) + (v8 + 1))⟩, ok_drawn (by omega) (by omega) (by omega) (by omega) (by omega) (by omega), rfl, ?_⟩
      exact Drawn.set h (Drawn.set h (Drawn.set h (Drawn.set h hd8 (Nat.le_refl _) _ _) (Nat.le_refl _) _ _) (Nat.le_refl _) _ _) (Nat.le_refl _) _ _
  · skip
    go_wp2_with fail
    go_at_call 81
    refine (draw_next4 (by omega) hd3 hne hc3).mono ?_
    rintro e w5 ⟨v5, rfl, a5, b5, hd5, hc5, _, _, _, _, _, _, _, _⟩
    by_cases z5 : v5 = 0
    · subst z5
      go_wp2_with fail
      go_at_call 81
      refine (draw_next4 (by omega) hd5 hne hc5).mono ?_
      rintro e w7 ⟨v7, rfl, a7, b7, hd7, hc7, _, _, _, _, _, _, _, _⟩
      go_wp2_with fail
      go_at_call 81
      refine (draw_next4 (by omega) hd7 hne hc7).mono ?_
      rintro e w8 ⟨v8, rfl, a8, b8, hd8, hc8, c0, c1, c2, c3, f0, f1, f2, f3⟩
      go_wp2_with fail
      refine bodyPost_ret (v := .agg #[.int .i64 ((v1 - 12)), .int .i64 ((-40)), .int .i64 (min 40 ((v1 - 12) + (v7 + 1))), .int .i64 (min 40 ((-40) + (v8 + 1)))]) (by first | (simp [results, Try.results83, go_sem, *]; done) | simp [results, Try.results83, go_sem, *, ↓IntWalk.iteOmega]) rfl ⟨⟨(v1 - 12), (-40), min 40 ((v1 - 12) + (v7 + 1)), min 40 ((-40) + (v8 + 1))⟩, ok_drawn (by omega) (by omega) (by omega) (by omega) (by omega) (by omega), rfl, ?_⟩
      exact Drawn.set h (Drawn.set h (Drawn.set h (Drawn.set h hd8 (Nat.le_refl _) _ _) (Nat.le_refl _) _ _) (Nat.le_refl _) _ _) (Nat.le_refl _) _ _
    · skip
      go_wp2_with fail
      go_at_call 81
      refine (draw_next4 (by omega) hd5 hne hc5).mono ?_
      rintro e w7 ⟨v7, rfl, a7, b7, hd7, hc7, _, _, _, _, _, _, _, _⟩
      go_wp2_with fail
      go_at_call 81
      refine (draw_next4 (by omega) hd7 hne hc7).mono ?_
      rintro e w8 ⟨v8, rfl, a8, b8, hd8, hc8, c0, c1, c2, c3, f0, f1, f2, f3⟩
      go_wp2_with fail
      refine bodyPost_ret (v := .agg #[.int .i64 ((v1 - 12)), .int .i64 ((v2 - 12)), .int .i64 (min 40 ((v1 - 12) + (v7 + 1))), .int .i64 (min 40 ((v2 - 12) + (v8 + 1)))]) (by first | (simp [results, Try.results83, go_sem, *]; done) | simp [results, Try.results83, go_sem, *, ↓IntWalk.iteOmega]) rfl ⟨⟨(v1 - 12), (v2 - 12), min 40 ((v1 - 12) + (v7 + 1)), min 40 ((v2 - 12) + (v8 + 1))⟩, ok_drawn (by omega) (by omega) (by omega) (by omega) (by omega) (by omega), rfl, ?_⟩
      exact Drawn.set h (Drawn.set h (Drawn.set h (Drawn.set h hd8 (Nat.le_refl _) _ _) (Nat.le_refl _) _ _) (Nat.le_refl _) _ _) (Nat.le_refl _) _ _
end Go.Proofs.Ytldgjocjcbhkmaa
