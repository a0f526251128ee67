/- Contracts: decimal numbers as texts (reference). -/
import Derived.Test.YtldgjocjcbhkmabDoorTxtP
import Derived.Test.YtldgjocjcbhkmabDoorGeo
import Derived.Lib.UnsafeStr
import Derived.Laws.IdiomStrings
import Derived.Laws.OwnMore
import Derived.Laws.AppendOwn
import Derived.Deep.AppendLies
import Derived.Deep.Onto
import Derived.WalkLawsBesides
namespace Go.Proofs.YtldgjocjcbhkmabDoor
open Go.RowKit
attribute [local go_sem low] cell_alloc_ite frozen_alloc_ite

/-! ### rows of bytes of the call's own -/
theorem u8_info : (Tryd.prog.info? 5).map (fun i => (i.zero, i.size, i.bytes)) = some (some (.int .u8 0), 1, 1) := by kernel_rfl
def OwnB (w : World) (base : Nat) (v : Value) (l : List UInt8) : Prop := w.ownsRow base 5 1 v l.length (Lib.byteCells l)
theorem bc_len (l : List UInt8) : (Lib.byteCells l).length = l.length := by simp [Lib.byteCells]
theorem bc_one (l : List UInt8) : ∀ u ∈ Lib.byteCells l, u.oneCell' = true := by
  intro u hu
  obtain ⟨b, _, rfl⟩ := List.mem_map.1 hu
  rfl
theorem bc_app (l m : List UInt8) : Lib.byteCells (l ++ m) = Lib.byteCells l ++ Lib.byteCells m := by simp [Lib.byteCells]
theorem ownB_slice {w : World} {base : Nat} {v : Value} {l : List UInt8} (h : OwnB w base v l) (hne : l ≠ []) : ∃ g cap, v = .slice (some ⟨g, 0, none⟩) l.length cap ∧ base ≤ g ∧ g < w.heap.size ∧
    ∀ j (hj : j < l.length), w.cell? ((⟨g, 0, none⟩ : Addr).add j) = some (.int .u8 (l[j].toNat : Int)) := by
  have hl : 0 < l.length := List.length_pos_iff.2 hne
  obtain ⟨g, cap, rfl, hb, hlt⟩ := World.ownsRow.form h hl
  refine ⟨g, cap, rfl, hb, hlt, fun j hj => ?_⟩
  refine World.ownsRow.cells h rfl j _ ?_
  simp [Lib.byteCells, hj]
theorem wpList_append_bytes {w : World} {ops : Array Oper} {rest : List Oper} {o : Oper} {a : Act} {Q : Exit → Act → World → Prop} (hgd : o.guard = none) (s x : Operand)
    (ho : o.op = .call { callee := .builtin .append, args := #[s, x], argTypes := #[32, 32] })
    (base : Nat) (v : Value) (l : List UInt8) (hs : a.eval s = v) (hown : OwnB w base v l)
    (vx : Value) (m : List UInt8) (b' g0 c0 : Nat) (hx : a.eval x = vx) (hm : (m = [] ∧ vx = .slice (some ⟨g0, 0, none⟩) 0 c0) ∨ (m ≠ [] ∧ OwnB w b' vx m)) (hlen : l.length + m.length ≤ 3000000) (hbase : base ≤ w.heap.size)
    (h : ∀ v' w', OwnB w' base v' (l ++ m) → w.grownBy w' v.ownBlock → wpList Tryd.prog ops Q rest (a.put o.dst v') w') : wpList Tryd.prog ops Q (o :: rest) a w := by
  obtain ⟨ii, hii, hiz⟩ := Option.map_eq_some_iff.1 u8_info
  simp only [Prod.mk.injEq] at hiz
  obtain ⟨hz, hsz, hby⟩ := hiz
  unfold OwnB at hown h
  rcases hm with ⟨rfl, rfl⟩ | ⟨hne, hm⟩
  · simp only [List.append_nil] at h
    refine wpList_append_own w hgd s x 32 ho base 5 ii _ 1 1 Tryd.underlying32 hii hz hsz hby rfl (by decide) v l.length (Lib.byteCells l) hs hown ⟨g0, 0, none⟩ 0 c0 [] hx rfl (fun j u hu => by simp at hu) (fun u hu => by simp at hu)
      (by simp only [List.length_nil] at hlen; unfold maxLen; omega) (by simp only [List.length_nil] at hlen; omega) hbase fun v' w' h1 h2 _ => h v' w' (by simpa using h1) h2
  · obtain ⟨g, cap, rfl, _, _, hc⟩ := ownB_slice hm hne
    refine wpList_append_own w hgd s x 32 ho base 5 ii _ 1 1 Tryd.underlying32 hii hz hsz hby rfl (by decide) v l.length (Lib.byteCells l) hs hown ⟨g, 0, none⟩ m.length cap (Lib.byteCells m) hx (by rw [bc_len, Nat.mul_one])
      (fun j u hu => ?_) (bc_one m) (by unfold maxLen; omega) (by omega) hbase fun v' w' h1 h2 _ => h v' w' (by rw [List.length_append, bc_app]; exact h1) h2
    have hj : j < m.length := by rw [← bc_len]; exact (List.getElem?_eq_some_iff.1 hu).1
    rw [hc j hj, ← hu]
    simp [Lib.byteCells, hj]
theorem ownB_one (w : World) (c : UInt8) (n : Int) (h : n = c.toNat) : OwnB (w.alloc (.cells #[.int .u8 n] 5)) w.heap.size (.slice (some ⟨w.heap.size, 0, none⟩) 1 1) [c] := by
  subst h
  exact World.ownsRow_lit w #[.int .u8 (c.toNat : Int)] 1 (Nat.le_refl _) (by simp [maxLen]) rfl
theorem ownB_alloc {w : World} {base : Nat} {v : Value} {l : List UInt8} (h : OwnB w base v l) (o : Obj) : OwnB (w.alloc o) base v l := World.ownsRow.alloc h o
theorem ownB_base {w : World} {b b' : Nat} {v : Value} {l : List UInt8} (h : OwnB w b v l) (hb : b' ≤ b) : OwnB w b' v l := World.ownsRow.mono h hb

/-! ### a number's digits, from the last to the first -/
def ddg (u : Nat) : List UInt8 := if u = 0 then [] else Lib.decDigits u
theorem ddg_step {u : Nat} (h : u ≠ 0) : ddg u = ddg (u / 10) ++ [UInt8.ofNat (48 + u % 10)] := by
  unfold ddg
  rw [if_neg h, Lib.decDigits]
  split
  · rw [if_pos (by omega), show u % 10 = u from by omega]; rfl
  · rw [if_neg (by omega)]
theorem pow_le_nDigits : ∀ (k n : Nat), 1 ≤ n → n < 10 ^ k → 10 ^ (Lib.nDigits n - 1) ≤ n
  | 0, n, h, hk => by omega
  | k + 1, n, h, hk => by
    by_cases hs : n < 10
    · rw [Lib.nDigits_small hs]; simpa using h
    · rw [Lib.nDigits_big hs]
      have hp : (10 : Nat) ^ (k + 1) = 10 * 10 ^ k := by rw [Nat.pow_succ]; omega
      have ih := pow_le_nDigits k (n / 10) (by omega) (by omega)
      have h1 := Lib.nDigits_pos (n / 10)
      have hq : (10 : Nat) ^ (Lib.nDigits (n / 10)) = 10 * 10 ^ (Lib.nDigits (n / 10) - 1) := by
        conv => lhs; rw [show Lib.nDigits (n / 10) = Lib.nDigits (n / 10) - 1 + 1 from by omega, Nat.pow_succ]
        omega
      rw [Nat.add_sub_cancel, hq]
      omega
theorem ddg_ne {n : Nat} (h : n ≠ 0) : ddg n ≠ [] := by
  rw [ddg_step h]; simp
theorem ddg_len {n : Nat} (h : n ≤ 999999999) : (ddg n).length ≤ 9 := by
  unfold ddg
  split
  · simp
  · rw [Lib.decDigits_length]
    have : n < 10 ^ 9 := by omega
    by_cases h1 : 1 ≤ n
    · have h2 := Lib.nDigits_pos n
      rcases Nat.lt_or_ge (Lib.nDigits n) 10 with h3 | h3
      · omega
      · exfalso
        have h4 : 10 ^ (Lib.nDigits n - 1) ≤ n := pow_le_nDigits 9 n h1 (by omega)
        have h5 : (10 : Nat) ^ 9 ≤ 10 ^ (Lib.nDigits n - 1) := Nat.pow_le_pow_right (by omega) (by omega)
        omega
    · omega
theorem digit_byte {r : Nat} (h : r < 10) : (48 + (r : Int)) = ((UInt8.ofNat (48 + r)).toNat : Int) := by
  rw [UInt8.toNat_ofNat_of_lt' (show 48 + r < 2 ^ 8 by omega)]; omega
theorem itoa_pos {n : Nat} (h : n ≠ 0) : Lib.itoa (n : Int) = ddg n := by
  unfold Lib.itoa ddg
  rw [if_neg (by omega), if_neg h]; rfl
theorem itoa_neg {n : Nat} (h : n ≠ 0) : Lib.itoa (-(n : Int)) = 45 :: ddg n := by
  unfold Lib.itoa ddg
  rw [if_pos (by omega), if_neg h]; simp
theorem itoa_zero : Lib.itoa 0 = [48] := by
  unfold Lib.itoa
  rw [if_neg (by omega), Lib.decDigits]; rfl
def RetStr (w : World) (l : List UInt8) (e : Ending) (w' : World) : Prop := e = .returned (.string ⟨l.toArray⟩) ∧ Below w.heap.size w w'
set_option maxRecDepth 100000 in
set_option maxHeartbeats 1600000 in
theorem spec_l01Number_pos (n : Nat) (h0 : 1 ≤ n) (hn : n ≤ 999999999) (w : World) : Calls Tryd.prog 17 #[.int .i64 n] w (RetStr w (Lib.itoa n)) := by
  have e0 : ((n : Int) == 0) = false := by simp; omega
  have HR := hide (itoa_pos (n := n) (by omega))
  have HE := hide (ownB_one)
  go_enter Tryd.func17, Tryd.ntmps17
  go_wp2_with fail
  go_loopw [3, 4] (fun s3 s4 wr => ∃ (u : Nat) (D : List UInt8), u ≤ n ∧ s4 = .int .i64 u ∧ ddg n = ddg u ++ D ∧ D.length ≤ 9 - (ddg u).length ∧ ((D = [] ∧ s3 = .slice (some ⟨w.heap.size, 0, none⟩) 0 0) ∨ (D ≠ [] ∧ OwnB wr w.heap.size s3 D)) ∧ Below w.heap.size w wr) (fun _ s4 _ => (intOf s4).toNat)
  case atStart => exact ⟨n, [], Nat.le_refl _, rfl, by simp, by simp, .inl ⟨rfl, rfl⟩, (by repeat (first | with_reducible exact Below.refl _ _ | with_reducible assumption | with_reducible refine bel_alloc ?_ _ | with_reducible refine bel_drew ?_ | with_reducible refine bel_drewN ?_ _ | with_reducible refine bel_set ?_ (by (try simp) <;> omega) _ | with_reducible refine bel_trans ?_ (by assumption)))⟩
  case round =>
    obtain ⟨u, D, hu, rfl, hd, hl, hs3, hbl⟩ := hrel
    have HD := hide hd
    have HS := hide hs3
    clear hd hs3
    have hsz := hbl.size
    by_cases hu0 : u = 0
    · subst hu0
      have hDD : ddg n = D := by have := HD.out; simpa [ddg] using this
      have hne : D ≠ [] := by
        intro e
        rw [e] at hDD
        have := ddg_ne (n := n) (by omega)
        exact this hDD
      have ho : OwnB wr w.heap.size u3 D := by
        rcases HS.out with ⟨h, _⟩ | ⟨_, h⟩
        · exact absurd h hne
        · exact h
      obtain ⟨g, cap, rfl, _, _, hc⟩ := ownB_slice ho hne
      have hrun := fun W (hW : W = wr) => run_convert_bytes_back (P := Tryd.prog) W 32 9 5 ⟨g, 0, none⟩ cap D Tryd.underlying32 Tryd.underlying5 Tryd.underlying9 (by rw [hW]; exact hc)
      have hrun2 := hrun wr rfl
      have HX := hide hDD
      have HC := hide (And.intro hrun hc)
      have n0 : ¬ ((n : Int) < 0) := by omega
      clear hrun hc ho hne hDD
      rw [show ((0 : Nat) : Int) = (0 : Int) from rfl]
      go_wp2_with fail
      go_ret
      exact ⟨by rw [HR.out, HX.out]; rfl, hbl⟩
    · obtain ⟨q, hq⟩ : ∃ q, q = u / 10 := ⟨_, rfl⟩
      obtain ⟨r, hr⟩ : ∃ r, r = u % 10 := ⟨_, rfl⟩
      have hr9 : (r : Int) ≤ 9 := by omega
      have hr0 : (0 : Int) ≤ (r : Int) := Int.natCast_nonneg _
      have hq9 : q < u := by omega
      have hstep := ddg_step hu0
      rw [← hq, ← hr] at hstep
      have HST := hide hstep
      have e1 : (u : Int) % 10 = (r : Int) := by omega
      have e2 : (u : Int) / 10 = (q : Int) := by omega
      have e3 : ((u : Int) != 0) = true := by simp; omega
      have hb := hide (digit_byte (r := r) (by omega))
      have hu9 : (u : Int) ≤ 999999999 := by omega
      have hu1 : (0 : Int) ≤ (u : Int) := Int.natCast_nonneg _
      clear hstep hq hr
      have hl9 := ddg_len (n := u) (by omega)
      have hlq : (ddg u).length = (ddg q).length + 1 := by rw [HST.out]; simp
      go_wp2_with (at_builtin; refine wpList_append_bytes rfl _ _ rfl w.heap.size _ [UInt8.ofNat (48 + r)] rfl (ownB_base (HE.out wr _ _ hb.out) hsz) u3 D w.heap.size w.heap.size 0 rfl (HS.out.imp id fun h => ⟨h.1, ownB_alloc h.2 _⟩) (by simp; omega) (by simp; omega) ?_; intro v' w1 ho1 hg1)
      go_roundw
      case rel => exact ⟨q, UInt8.ofNat (48 + r) :: D, by omega, by go_num, by rw [HD.out, HST.out]; simp, by simp; omega, .inr ⟨by simp, ho1⟩, (hbl.alloc hsz _).grown hg1 (by first | (simp; done) | (simp; omega)) (fun k e => by cases e; exact hsz)⟩
      case measure => simp [intOf]; omega
set_option maxRecDepth 100000 in
set_option maxHeartbeats 1600000 in
theorem spec_l01Number_neg (n : Nat) (h0 : 1 ≤ n) (hn : n ≤ 999999999) (w : World) : Calls Tryd.prog 17 #[.int .i64 (-(n : Int))] w (RetStr w (Lib.itoa (-(n : Int)))) := by
  have e0 : ((-(n : Int)) == 0) = false := by simp; omega
  have HR := hide (itoa_neg (n := n) (by omega))
  have HE := hide (ownB_one)
  go_enter Tryd.func17, Tryd.ntmps17
  go_wp2_with fail
  go_loopw [3, 4] (fun s3 s4 wr => ∃ (u : Nat) (D : List UInt8), u ≤ n ∧ s4 = .int .i64 (-(u : Int)) ∧ ddg n = ddg u ++ D ∧ D.length ≤ 9 - (ddg u).length ∧ ((D = [] ∧ s3 = .slice (some ⟨w.heap.size, 0, none⟩) 0 0) ∨ (D ≠ [] ∧ OwnB wr w.heap.size s3 D)) ∧ Below w.heap.size w wr) (fun _ s4 _ => (-(intOf s4)).toNat)
  case atStart => exact ⟨n, [], Nat.le_refl _, rfl, by simp, by simp, .inl ⟨rfl, rfl⟩, (by repeat (first | with_reducible exact Below.refl _ _ | with_reducible assumption | with_reducible refine bel_alloc ?_ _ | with_reducible refine bel_drew ?_ | with_reducible refine bel_drewN ?_ _ | with_reducible refine bel_set ?_ (by (try simp) <;> omega) _ | with_reducible refine bel_trans ?_ (by assumption)))⟩
  case round =>
    obtain ⟨u, D, hu, rfl, hd, hl, hs3, hbl⟩ := hrel
    have HD := hide hd
    have HS := hide hs3
    clear hd hs3
    have hsz := hbl.size
    by_cases hu0 : u = 0
    · subst hu0
      have hDD : ddg n = D := by have := HD.out; simpa [ddg] using this
      have hne : D ≠ [] := by
        intro e
        rw [e] at hDD
        have := ddg_ne (n := n) (by omega)
        exact this hDD
      have ho : OwnB wr w.heap.size u3 D := by
        rcases HS.out with ⟨h, _⟩ | ⟨_, h⟩
        · exact absurd h hne
        · exact h
      have HX := hide hDD
      obtain ⟨g0, cap0, rfl, _, _, _⟩ := ownB_slice ho hne
      have HO := hide (And.intro ho hne)
      have n0 : (-(n : Int)) < 0 := by omega
      have hDn := ddg_len (n := n) hn
      rw [hDD] at hDn
      clear ho hne hDD
      rw [show (-((0 : Nat) : Int)) = (0 : Int) from rfl]
      go_wp2_with (at_builtin; refine wpList_append_bytes rfl _ _ rfl w.heap.size _ [45] rfl (ownB_base (HE.out wr 45 45 rfl) hsz) _ D w.heap.size w.heap.size 0 rfl (.inr ⟨HO.out.2, ownB_alloc HO.out.1 _⟩) (by simp only [List.length_singleton]; omega) (by first | omega | (simp; omega) | simp) ?_; intro v' w1 ho1 hg1; refine Hid.out ?_)
      refine hide ?_
      obtain ⟨E, hE⟩ : ∃ E, E = [45] ++ D := ⟨_, rfl⟩
      rw [← hE] at ho1
      have hne : E ≠ [] := by simp [hE]
      have HE2 := hide hE
      obtain ⟨g, cap, rfl, _, _, hc⟩ := ownB_slice ho1 hne
      have hrun := run_convert_bytes_back (P := Tryd.prog) w1 32 9 5 ⟨g, 0, none⟩ cap E Tryd.underlying32 Tryd.underlying5 Tryd.underlying9 hc
      clear hc hne hE
      go_wp2_with fail
      go_ret
      exact ⟨by rw [HR.out, HX.out, HE2.out]; rfl, (hbl.alloc hsz _).grown hg1 (by first | (simp; done) | (simp; omega)) (fun k e => by cases e; exact hsz)⟩
    · obtain ⟨q, hq⟩ : ∃ q, q = u / 10 := ⟨_, rfl⟩
      obtain ⟨r, hr⟩ : ∃ r, r = u % 10 := ⟨_, rfl⟩
      have hr9 : (r : Int) ≤ 9 := by omega
      have hr0 : (0 : Int) ≤ (r : Int) := Int.natCast_nonneg _
      have hq9 : q < u := by omega
      have hstep := ddg_step hu0
      rw [← hq, ← hr] at hstep
      have HST := hide hstep
      have e1 : (-(u : Int)).tmod 10 = -(r : Int) := by rw [Int.neg_tmod, Int.tmod_eq_emod_of_nonneg (by omega)]; omega
      have e2 : (-(u : Int)).tdiv 10 = -(q : Int) := by rw [Int.neg_tdiv, Int.tdiv_eq_ediv_of_nonneg (by omega)]; omega
      have e3 : ((-(u : Int)) != 0) = true := by simp; omega
      have hb := hide (digit_byte (r := r) (by omega))
      have hu9 : (u : Int) ≤ 999999999 := by omega
      have hu1 : (0 : Int) ≤ (u : Int) := Int.natCast_nonneg _
      clear hstep hq hr
      have hl9 := ddg_len (n := u) (by omega)
      have hlq : (ddg u).length = (ddg q).length + 1 := by rw [HST.out]; simp
      by_cases hr00 : r = 0
      · have hb0 := hide (show (48 : Int) + -(r : Int) = ((UInt8.ofNat (48 + r)).toNat : Int) by rw [← hb.out]; omega)
        have hrn : ¬ (0 < r) := by omega
        clear hr00
        go_wp2_with (at_builtin; refine wpList_append_bytes rfl _ _ rfl w.heap.size _ [UInt8.ofNat (48 + r)] rfl (ownB_base (HE.out wr _ _ hb0.out) hsz) u3 D w.heap.size w.heap.size 0 rfl (HS.out.imp id fun h => ⟨h.1, ownB_alloc h.2 _⟩) (by simp; omega) (by simp; omega) ?_; intro v' w1 ho1 hg1)
        go_roundw
        case rel => exact ⟨q, UInt8.ofNat (48 + r) :: D, by omega, by go_num, by rw [HD.out, HST.out]; simp, by simp; omega, .inr ⟨by simp, ho1⟩, (hbl.alloc hsz _).grown hg1 (by first | (simp; done) | (simp; omega)) (fun k e => by cases e; exact hsz)⟩
        case measure => simp [intOf]; omega
      · have hrp : 0 < r := by omega
        go_wp2_with (at_builtin; refine wpList_append_bytes rfl _ _ rfl w.heap.size _ [UInt8.ofNat (48 + r)] rfl (ownB_base (HE.out wr _ _ hb.out) hsz) u3 D w.heap.size w.heap.size 0 rfl (HS.out.imp id fun h => ⟨h.1, ownB_alloc h.2 _⟩) (by simp; omega) (by simp; omega) ?_; intro v' w1 ho1 hg1)
        go_roundw
        case rel => exact ⟨q, UInt8.ofNat (48 + r) :: D, by omega, by go_num, by rw [HD.out, HST.out]; simp, by simp; omega, .inr ⟨by simp, ho1⟩, (hbl.alloc hsz _).grown hg1 (by first | (simp; done) | (simp; omega)) (fun k e => by cases e; exact hsz)⟩
        case measure => simp [intOf]; omega
theorem spec_l01Number (n : Int) (hn : -999999999 ≤ n ∧ n ≤ 999999999) (w : World) : Calls Tryd.prog 17 #[.int .i64 n] w (RetStr w (Lib.itoa n)) := by
  rcases Int.lt_trichotomy n 0 with h | h | h
  · obtain ⟨k, rfl⟩ : ∃ k : Nat, n = -(k : Int) := ⟨n.natAbs, by omega⟩
    exact spec_l01Number_neg k (by omega) (by omega) w
  · subst h
    have HZ := hide itoa_zero
    go_enter Tryd.func17, Tryd.ntmps17
    go_wp2_with fail
    go_ret
    exact ⟨by rw [HZ.out]; rfl, Below.refl _ _⟩
  · obtain ⟨k, rfl⟩ : ∃ k : Nat, n = (k : Int) := ⟨n.natAbs, by omega⟩
    exact spec_l01Number_pos k (by omega) (by omega) w
end Go.Proofs.YtldgjocjcbhkmabDoor
