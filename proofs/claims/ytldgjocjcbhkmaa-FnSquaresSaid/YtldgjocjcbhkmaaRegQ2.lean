/- Contracts: the squares that a region covers (the program). -/
import Derived.Test.YtldgjocjcbhkmaaRegQ
import Derived.StillTailTactics
import Derived.Deep.MidRow
namespace Go.Proofs.Ytldgjocjcbhkmaa
open Go.RowKit
attribute [local go_sem low] cell_alloc_ite frozen_alloc_ite

theorem rowIs_setCells {b t n : Nat} {z : Value} : ∀ (vs : List Value) (o : Nat) (w : World), w.rowIs b t n (fun _ => z) → (∀ v ∈ vs, v = z) → (w.setCells b o vs).rowIs b t n (fun _ => z)
  | [], _, _, h, _ => h
  | v :: vs, o, _, h, hv => by
    obtain rfl : v = z := hv v (by simp)
    exact rowIs_setCells vs (o + 1) _ ((h.set o v).congr fun i _ => by split <;> rfl) fun u hu => hv u (by simp [hu])
theorem below_setCells {B b : Nat} {w0 : World} (hb : B ≤ b) : ∀ (vs : List Value) (o : Nat) (w : World), Below B w0 w → Below B w0 (w.setCells b o vs)
  | [], _, _, h => h
  | v :: vs, o, _, h => below_setCells hb vs (o + 1) _ (h.setCell hb v)
theorem other_setCells {b b' t n : Nat} {f : Nat → Value} (hb : b' ≠ b) : ∀ (vs : List Value) (o : Nat) (w : World), w.rowIs b' t n f → (w.setCells b o vs).rowIs b' t n f
  | [], _, _, h => h
  | v :: vs, o, _, h => other_setCells hb vs (o + 1) _ (h.setOther (a := ⟨b, o, none⟩) hb v)
theorem there_row {w : World} {b t n : Nat} {f : Nat → Value} (h : w.rowIs b t n f) : w.there b 0 n := fun j hj => by
  rw [Nat.zero_add, h.cell hj]
  exact ⟨rfl, h.frozen j⟩
/-- The cells of the heights. -/
def hv (H : Nat → Nat → Nat) : Nat → Value := fun n => .int .i64 (H (n / 80) (n % 80))
theorem hv_at (H : Nat → Nat → Nat) {i k : Nat} (hk : k < 80) : hv H (i * 80 + k) = .int .i64 (H i k) := by
  unfold hv
  rw [show (i * 80 + k) / 80 = i from by omega, show (i * 80 + k) % 80 = k from by omega]
def updH (H : Nat → Nat → Nat) (i k v : Nat) : Nat → Nat → Nat := fun a c => if a = i ∧ c = k then v else H a c
theorem hrow_upd {w : World} {b t : Nat} {H : Nat → Nat → Nat} (h : w.rowIs b t 6480 (hv H)) {i k : Nat} (hk : k < 80) (v : Nat) : (w.setCell ⟨b, i * 80 + k, none⟩ (.int .i64 v)).rowIs b t 6480 (hv (updH H i k v)) :=
  (h.set (i * 80 + k) (.int .i64 v)).congr fun n _ => by
    simp only [hv, updH]
    by_cases hn : n = i * 80 + k
    · rw [if_pos hn, if_pos (by omega)]
    · rw [if_neg hn, if_neg (by omega)]
theorem hgt_step (g : Grid) {i : Nat} (hi : i < 80) (x : Nat) : hgt g (80 - i) x = if g i x then hgt g (80 - (i + 1)) x + 1 else 0 := by
  unfold hgt
  rw [show 80 - i = (80 - (i + 1)) + 1 from by omega, upTo, show 80 - ((80 - (i + 1)) + 1) = i from by omega]
theorem wid_step (g : Grid) (K n : Nat) {j : Nat} (hj : j < 80) : wid g K n (80 - j) = if decide (K ≤ hgt g n j) then wid g K n (80 - (j + 1)) + 1 else 0 := by
  unfold wid
  rw [show 80 - j = (80 - (j + 1)) + 1 from by omega, upTo, show 80 - ((80 - (j + 1)) + 1) = j from by omega]
theorem hgt_le (g : Grid) (n x : Nat) : hgt g n x ≤ n := upTo_le _ n
theorem wid_le (g : Grid) (K n m : Nat) : wid g K n m ≤ m := upTo_le _ m
/-- The cells that lie in a full square that starts at or behind (n - 1, m). -/
def sqD (K : Nat) (g : Grid) (n m u v : Nat) : Prop := ∃ i0 j0, (n ≤ i0 ∨ i0 + 1 = n ∧ m ≤ j0) ∧ i0 < 80 ∧ j0 < 80 ∧ fullG K g i0 j0 = true ∧ i0 ≤ u ∧ u < i0 + K ∧ j0 ≤ v ∧ v < j0 + K
theorem sqD_start {K : Nat} {g : Grid} {u v : Nat} : ¬ sqD K g 80 80 u v := by rintro ⟨i0, j0, h, h1, h2, _⟩; omega
theorem sqD_row {K : Nat} {g : Grid} {n u v : Nat} : sqD K g n 80 u v ↔ sqD K g (n + 1) 0 u v := by
  constructor
  · rintro ⟨i0, j0, h, h1, h2, r⟩; exact ⟨i0, j0, by omega, h1, h2, r⟩
  · rintro ⟨i0, j0, h, h1, h2, r⟩; exact ⟨i0, j0, by omega, h1, h2, r⟩
theorem sqD_no {K : Nat} {g : Grid} {i j u v : Nat} (hf : fullG K g i j = false) : sqD K g (i + 1) j u v ↔ sqD K g (i + 1) (j + 1) u v := by
  constructor
  · rintro ⟨i0, j0, h, h1, h2, h3, r⟩
    by_cases e : i0 = i ∧ j0 = j
    · rw [e.1, e.2, hf] at h3; cases h3
    · exact ⟨i0, j0, by omega, h1, h2, h3, r⟩
  · rintro ⟨i0, j0, h, r⟩; exact ⟨i0, j0, by omega, r⟩
theorem sqD_yes {K : Nat} {g : Grid} {i j u v : Nat} (hf : fullG K g i j = true) (hi : i < 80) (hj : j < 80) : sqD K g (i + 1) j u v ↔ sqD K g (i + 1) (j + 1) u v ∨ (i ≤ u ∧ u < i + K ∧ j ≤ v ∧ v < j + K) := by
  constructor
  · rintro ⟨i0, j0, h, h1, h2, h3, r⟩
    by_cases e : i0 = i ∧ j0 = j
    · obtain ⟨rfl, rfl⟩ := e; exact .inr r
    · exact .inl ⟨i0, j0, by omega, h1, h2, h3, r⟩
  · rintro (⟨i0, j0, h, r⟩ | r)
    · exact ⟨i0, j0, by omega, r⟩
    · exact ⟨i, j, by omega, hi, hj, hf, r⟩
theorem sqD_all {K : Nat} {g : Grid} {u v : Nat} : sqD K g 0 80 u v ↔ sqG K g u v = true := by
  rw [sqG_iff]
  constructor
  · rintro ⟨i0, j0, h, h1, h2, r⟩; exact ⟨i0, h1, j0, h2, r⟩
  · rintro ⟨i0, h1, j0, h2, r⟩; exact ⟨i0, j0, by omega, h1, h2, r⟩
theorem sq_has {i j K u v : Nat} : (Rc.mk ((j : Int) - 40) ((i : Int) - 40) ((j : Int) - 40 + K) ((i : Int) - 40 + K)).has u v = true ↔ i ≤ u ∧ u < i + K ∧ j ≤ v ∧ v < j + K := by
  rw [Rc.has_iff]
  simp only
  omega
def isZ : Value → Bool
  | .int .i64 0 => true
  | _ => false
theorem isZ_eq {v : Value} (h : isZ v = true) : v = .int .i64 0 := by
  unfold isZ at h
  split at h
  · rfl
  · exact absurd h (by simp)
theorem upd_hgt {g : Grid} {H : Nat → Nat → Nat} {i j q : Nat} (h : ∀ r x, r ≤ 80 → x < 80 → H r x = if i + 1 ≤ r ∨ (r = i ∧ j + 1 ≤ x) then hgt g (80 - r) x else 0) (hq : hgt g (80 - i) j = q) (_ : j < 80) (_ : i ≤ 80) :
    ∀ r x, r ≤ 80 → x < 80 → updH H i j q r x = if i + 1 ≤ r ∨ (r = i ∧ j ≤ x) then hgt g (80 - r) x else 0 := by
  intro r x hr hx
  unfold updH
  by_cases e : r = i ∧ x = j
  · rw [if_pos e, e.1, e.2, if_pos (by omega), hq]
  · rw [if_neg e, h r x hr hx]
    by_cases e2 : i + 1 ≤ r ∨ (r = i ∧ j + 1 ≤ x)
    · rw [if_pos e2, if_pos (by omega)]
    · rw [if_neg e2, if_neg (by omega)]
/-- All blocks but b are as they were. -/
def sameBut (b : Nat) (w w' : World) : Prop := ∀ q, q ≠ b → q < w.heap.size → w'.heap[q]? = w.heap[q]?
theorem same_refl (b : Nat) (w : World) : sameBut b w w := fun _ _ _ => rfl
theorem same_alloc {b : Nat} {w w' : World} (h : sameBut b w w') (o : Obj) (hs : w.heap.size ≤ w'.heap.size := by first | exact Nat.le_refl _ | omega) : sameBut b w (w'.alloc o) := fun q hq hl => (Below.heap_alloc w' o q (Nat.lt_of_lt_of_le hl hs)).trans (h q hq hl)
theorem same_set {b : Nat} {w w' : World} (h : sameBut b w w') (i : Nat) (v : Value) : sameBut b w (w'.setCell ⟨b, i, none⟩ v) := fun q hq hl => (Go.Deep.blk_setCell_other _ _ _ _ hq).trans (h q hq hl)
attribute [local go_sem high] run_max2 run_min2
set_option maxRecDepth 100000 in
set_option maxHeartbeats 1600000 in
theorem impl_put2 (r0 r1 r2 r3 : Int) (b t : Nat) (g : Grid) (w : World) (hrow : w.rowIs b t 6400 (gv g)) :
    Calls Try.prog 121 #[.pointer (some ⟨b, 0, none⟩), .agg #[.int .i64 r0, .int .i64 r1, .int .i64 r2, .int .i64 r3]] w fun e w' => e = .returned (.tuple #[]) ∧ w'.rowIs b t 6400 (gv fun i k => g i k || (Rc.mk r0 r1 r2 r3).has i k) ∧ sameBut b w w' ∧ Below b w w' := by
  have hlt := hrow.lt
  obtain ⟨i0, hi0⟩ : ∃ i0 : Nat, max r1 (-40) = (i0 : Int) - 40 := ⟨(max r1 (-40) + 40).toNat, by omega⟩
  obtain ⟨k0, hk0⟩ : ∃ k0 : Nat, max r0 (-40) = (k0 : Int) - 40 := ⟨(max r0 (-40) + 40).toNat, by omega⟩
  have HI0 := hide hi0
  have HK0 := hide hk0
  go_enter Try.func121, Try.ntmps121
  go_wp2_with fail
  go_loopw [4] (fun sk wr => ∃ i : Nat, i0 ≤ i ∧ sk = .int .i64 ((i : Int) - 40) ∧ wr.rowIs b t 6400 (gv fun a c => g a c || ((Rc.mk r0 r1 r2 r3).has a c && decide (a < i))) ∧
      wr.cell? ⟨w.heap.size, 0, none⟩ = some (.int .i64 r0) ∧ wr.cell? ⟨w.heap.size, 1, none⟩ = some (.int .i64 r1) ∧ wr.cell? ⟨w.heap.size, 2, none⟩ = some (.int .i64 r2) ∧ wr.cell? ⟨w.heap.size, 3, none⟩ = some (.int .i64 r3) ∧ w.heap.size < wr.heap.size ∧ sameBut b w wr ∧ Below b w wr) (fun k _ => (40 - intOf k).toNat)
  case atStart =>
    refine ⟨i0, Nat.le_refl _, by go_num, ((hrow.alloc _)).congr (gv_none fun a c ha hc => ?_), by simp [go_sem], by simp [go_sem], by simp [go_sem], by simp [go_sem], by simp, same_alloc (same_refl b w) _, (Below.refl _ _).alloc (by omega) _⟩
    have := HI0.out
    simp only [Bool.and_eq_true, decide_eq_true_eq, Rc.has_iff]; omega
  case round =>
    obtain ⟨i, hi, rfl, hrow1, c0, c1, c2, c3, hz, hsm, hbl⟩ := hrel
    by_cases hy : (i : Int) - 40 < min r3 40
    · go_wp2_with fail
      go_loopw [5] (fun sk wr => ∃ k : Nat, k0 ≤ k ∧ sk = .int .i64 ((k : Int) - 40) ∧ wr.rowIs b t 6400 (gv fun a c => g a c || ((Rc.mk r0 r1 r2 r3).has a c && (decide (a < i) || (decide (a = i) && decide (c < k))))) ∧
          wr.cell? ⟨w.heap.size, 0, none⟩ = some (.int .i64 r0) ∧ wr.cell? ⟨w.heap.size, 1, none⟩ = some (.int .i64 r1) ∧ wr.cell? ⟨w.heap.size, 2, none⟩ = some (.int .i64 r2) ∧ wr.cell? ⟨w.heap.size, 3, none⟩ = some (.int .i64 r3) ∧ w.heap.size < wr.heap.size ∧ sameBut b w wr ∧ Below b w wr) (fun k _ => (40 - intOf k).toNat)
      case atStart =>
        refine ⟨k0, Nat.le_refl _, by go_num, hrow1.congr (gv_or fun a c ha hc => ?_), c0, c1, c2, c3, hz, hsm, hbl⟩
        have := HK0.out
        simp only [Bool.and_eq_true, Bool.or_eq_true, decide_eq_true_eq, Rc.has_iff]; omega
      case round =>
        obtain ⟨k, hk, rfl, hrow2, d0, d1, d2, d3, hz2, hsm2, hbl2⟩ := hrel
        have HSM := hide hsm2
        clear hsm2
        by_cases hx : (k : Int) - 40 < min r2 40
        · have hcell := hrow2.cell (i := i * 80 + k) (by omega)
          have hfro := hrow2.frozen (i * 80 + k)
          go_wp2
          go_roundw
          case rel =>
            have := HI0.out
            have := HK0.out
            have hne : w.heap.size ≠ b := by omega
            refine ⟨k + 1, by omega, by go_num, ?_, ?_⟩
            · refine row_set hrow2 (by omega) fun a c ha hc => ?_
              simp only [Bool.and_eq_true, Bool.or_eq_true, decide_eq_true_eq, Rc.has_iff]; omega
            · exact ⟨by simp [go_sem, *], by simp [go_sem, *], by simp [go_sem, *], by simp [go_sem, *], by simp; omega, same_set HSM.out _ _, hbl2.setCell (Nat.le_refl b) (Value.bool true)⟩
          case measure => simp [intOf]; omega
        · go_wp2
          go_roundw
          case rel =>
            have := HI0.out
            have := HK0.out
            refine ⟨i + 1, by omega, by go_num, hrow2.congr (gv_or fun a c ha hc => ?_), d0, d1, d2, d3, hz2, HSM.out, hbl2⟩
            simp only [Bool.and_eq_true, Bool.or_eq_true, decide_eq_true_eq, Rc.has_iff]; omega
          case measure => simp [intOf]; omega
    · go_wp2
      refine bodyPost_end (v := .tuple #[]) (by simp [results, Try.results121, go_sem]) rfl ⟨rfl, hrow1.congr (gv_or fun a c ha hc => ?_), hsm, hbl⟩
      have := HI0.out
      simp only [Bool.and_eq_true, decide_eq_true_eq, Rc.has_iff]; omega
theorem high_all : Try.zeroCells130.toList.all isZ = true := by kernel_rfl
theorem high_one : Try.zeroCells130.all (·.oneCell') = true :=
  Array.all_eq_true_iff_forall_mem.2 fun v hv => by
    rw [isZ_eq (List.all_eq_true.1 high_all v (by simpa using hv))]
    rfl
theorem high_info : (Try.prog.info? 130).map (·.size) = some 6480 := by kernel_rfl
theorem zero_high (w : World) : (w.alloc (Obj.cells Try.zeroCells130 130)).rowIs w.heap.size 130 6480 (fun _ => .int .i64 0) := by
  have ha := high_all
  have hs := Try.zeroCells130_size
  rw [← hs]
  refine World.rowIs_alloc w _ _ _ fun i hi => ?_
  have h2 := List.all_eq_true.1 ha _ (Array.getElem_mem_toList hi)
  rw [Array.getElem?_eq_getElem hi]
  exact congrArg some (isZ_eq h2)
theorem high_setup (w2 : World) : ∃ wh, World.setCells ((w2.alloc (Obj.cells Try.zeroCells103 103)).alloc (Obj.cells Try.zeroCells130 130)) (w2.heap.size + 1) 0 Try.zeroCells130.toList = wh ∧
    World.there ((w2.alloc (Obj.cells Try.zeroCells103 103)).alloc (Obj.cells Try.zeroCells130 130)) (w2.heap.size + 1) 0 Try.zeroCells130.size ∧
    (Try.prog.info? 130).map (·.size) = some Try.zeroCells130.size ∧ Try.zeroCells130.all (·.oneCell') = true ∧
    wh.rowIs (w2.heap.size + 1) 130 6480 (fun _ => .int .i64 0) ∧ wh.rowIs w2.heap.size 103 6400 (gv fun _ _ => false) ∧ Below w2.heap.size w2 wh := by
  have hz := zero_rowF w2
  have hzh := zero_high (w2.alloc (Obj.cells Try.zeroCells103 103))
  rw [show (w2.alloc (Obj.cells Try.zeroCells103 103)).heap.size = w2.heap.size + 1 from World.size_alloc _ _] at hzh
  have hs := Try.zeroCells130_size
  have ha := high_all
  have hall : ∀ v ∈ Try.zeroCells130.toList, v = .int .i64 0 := fun v hv => isZ_eq (List.all_eq_true.1 ha v hv)
  refine ⟨_, rfl, ?_, by rw [hs]; exact high_info, high_one, rowIs_setCells _ 0 _ hzh hall, other_setCells (by omega) _ 0 _ (hz.alloc _), below_setCells (by omega) _ 0 _ (((Below.refl w2.heap.size w2).alloc (Nat.le_refl _) _).alloc (by simp) _)⟩
  rw [hs]
  exact there_row hzh
set_option maxRecDepth 100000 in
set_option maxHeartbeats 3200000 in
theorem impl_squareCover (l : List Rc) (K : Nat) (hK : 0 < K ∧ K ≤ 10) (a : Option Addr) (cap : Nat) (w : World) (h : RectsAt w.heap.size w a l) (hn : l.length ≤ 1000000) :
    Calls Try.prog 114 #[.slice a l.length cap, .int .i64 (K : Int)] w (RetS w (regionL (sqG K (bitsOf l)))) := by
  obtain ⟨hK0, hK1⟩ := hK
  go_enter Try.func114, Try.ntmps114
  go_wp2_with fail
  go_at_call 88
  refine (impl_cellsOf l _ _ _ h hn).mono ?_
  rintro e w2 ⟨b1, rfl, _, r1, hb⟩
  have l1 := r1.lt
  obtain ⟨g, hg⟩ : ∃ g, g = bitsOf l := ⟨_, rfl⟩
  rw [← hg] at r1
  have HG := hide hg
  clear hg
  obtain ⟨wh, hW, HTH, HINF, HONE, hrow0, hout0, hbz0⟩ := high_setup w2
  have HW := hide hW
  have HTH := hide HTH
  have HINF := hide HINF
  have HONE := hide HONE
  clear hW
  go_wp2_with (refine wpList_store_mid rfl 130 _ _ rfl (w2.heap.size + 1) 0 Try.zeroCells130 rfl rfl HTH.out HINF.out HONE.out ?_; rw [HW.out])
  clear h HTH HINF HONE HW
  go_loopw [8] (fun s wr => ∃ (n : Nat) (f : Grid) (H : Nat → Nat → Nat), n ≤ 80 ∧ s = .int .i64 ((n : Int) - 1) ∧ wr.rowIs w2.heap.size 103 6400 (gv f) ∧ (∀ u v, u < 80 → v < 80 → (f u v = true ↔ sqD K g n 80 u v)) ∧
      wr.rowIs (w2.heap.size + 1) 130 6480 (hv H) ∧ (∀ r x, r ≤ 80 → x < 80 → H r x = if n ≤ r then hgt g (80 - r) x else 0) ∧ Below w2.heap.size w2 wr) (fun s _ => (intOf s + 1).toNat)
  case atStart =>
    refine ⟨80, _, fun _ _ => 0, Nat.le_refl _, rfl, hout0, fun u v _ _ => ⟨fun e => (by cases e), fun e => absurd e sqD_start⟩, hrow0, fun r x hr hx => ?_, hbz0⟩
    split
    · rw [show 80 - r = 0 from by omega]; rfl
    · rfl
  case round =>
    obtain ⟨n, f, H, hn80, rfl, hout, hf, hhi, hH, hbz⟩ := hrel
    have HF := hide hf
    have HH := hide hH
    clear hf hH hout0 hrow0 hbz0
    by_cases hn0 : n = 0
    · subst hn0
      rw [show (((0 : Nat) : Int) - 1) = -1 from rfl]
      go_wp2_with fail
      go_at_call 89
      refine ((impl_region _ _ _ _ hout).mono fun _ _ => retS_of).mono ?_
      rintro e w9 ⟨a9, c9, rfl, ho9, hb9⟩
      have hge : GEq f (sqG K (bitsOf l)) := fun u v hu hv => by
        rw [Bool.eq_iff_iff, HF.out u v hu hv, ← HG.out]
        exact sqD_all
      rw [regionL_congr hge] at ho9 ⊢
      have hbb := bel_trans hb hbz
      go_wp2_with fail
      go_ret
      exact ⟨a9, c9, rfl, own_base ho9 hbb.size, bel_trans hbb hb9⟩
    · obtain ⟨i, rfl⟩ : ∃ i, n = i + 1 := ⟨n - 1, by omega⟩
      rw [show (((i + 1 : Nat) : Int) - 1) = (i : Int) from by omega]
      have hi80 : i < 80 := by omega
      have hiJ : (0 : Int) ≤ (i : Int) := Int.natCast_nonneg _
      have hiI : (i : Int) < 80 := by omega
      clear hn80 hn0
      go_wp2_with fail
      go_loopw [9, 10] (fun s9 s wr => ∃ (m wd : Nat) (f : Grid) (H : Nat → Nat → Nat), m ≤ 80 ∧ s = .int .i64 ((m : Int) - 1) ∧ s9 = .int .i64 (wd : Int) ∧ wd = wid g K (80 - i) (80 - m) ∧ wd ≤ 80 ∧ wr.rowIs w2.heap.size 103 6400 (gv f) ∧ (∀ u v, u < 80 → v < 80 → (f u v = true ↔ sqD K g (i + 1) m u v)) ∧
          wr.rowIs (w2.heap.size + 1) 130 6480 (hv H) ∧ (∀ r x, r ≤ 80 → x < 80 → H r x = if i + 1 ≤ r ∨ (r = i ∧ m ≤ x) then hgt g (80 - r) x else 0) ∧ Below w2.heap.size w2 wr) (fun _ s _ => (intOf s + 1).toNat)
      case atStart =>
        refine ⟨80, 0, f, H, Nat.le_refl _, rfl, rfl, rfl, Nat.zero_le _, hout, HF.out, hhi, fun r x hr hx => ?_, hbz⟩
        rw [HH.out r x hr hx]
        by_cases e : i + 1 ≤ r
        · rw [if_pos e, if_pos (.inl e)]
        · rw [if_neg e, if_neg (by omega)]
      case round =>
        obtain ⟨m, wd, f2, H2, hm80, rfl, rfl, hwd, hwl, hout2, hf2, hhi2, hH2, hbz2⟩ := hrel
        have HF2 := hide hf2
        have HH2 := hide hH2
        have HWD := hide hwd
        clear hf2 hH2 hwd hout hhi
        by_cases hm0 : m = 0
        · subst hm0
          rw [show (((0 : Nat) : Int) - 1) = -1 from rfl]
          go_wp2_with fail
          go_roundw
          case rel =>
            refine ⟨i, f2, H2, by omega, rfl, hout2, fun u v hu hv => (HF2.out u v hu hv).trans sqD_row.symm, hhi2, fun r x hr hx => ?_, hbz2⟩
            rw [HH2.out r x hr hx]
            by_cases e : i ≤ r
            · rw [if_pos e, if_pos (by omega)]
            · rw [if_neg e, if_neg (by omega)]
          case measure => simp [intOf] <;> omega
        · obtain ⟨j, rfl⟩ : ∃ j, m = j + 1 := ⟨m - 1, by omega⟩
          rw [show (((j + 1 : Nat) : Int) - 1) = (j : Int) from by omega]
          have hj80 : j < 80 := by omega
          have hjJ : (0 : Int) ≤ (j : Int) := Int.natCast_nonneg _
          have hjI : (j : Int) < 80 := by omega
          clear hm80 hm0
          have e1 : _root_.Go.World.rowIs _ b1 103 6400 (gv g) := r1.of_block (hbz2.block b1 l1)
          have d1 := e1.cell (i := i * 80 + j) (by omega)
          have d2 := hhi2.cell (i := i * 80 + j) (by omega)
          have d3 := hhi2.cell (i := (i + 1) * 80 + j) (by omega)
          have d4 := hhi2.frozen (i * 80 + j)
          rw [gv_at _ hj80] at d1
          rw [hv_at _ hj80] at d2 d3
          have hz2 : H2 i j = 0 := by rw [HH2.out i j (by omega) hj80, if_neg (by omega)]
          rw [hz2] at d2
          have hn2 : H2 (i + 1) j = hgt g (80 - (i + 1)) j := by rw [HH2.out (i + 1) j (by omega) hj80, if_pos (by omega)]
          have hst := hgt_step g hi80 j
          have hws := wid_step g K (80 - i) hj80
          have hwf := wid_full (g := g) (k := K) hK0 (Nat.le_of_lt hi80) (Nat.le_of_lt hj80)
          rw [← HWD.out] at hws
          have hgl := hgt_le g (80 - (i + 1)) j
          rw [← hn2] at hst hgl
          generalize H2 (i + 1) j = h1 at d3 hst hgl
          clear e1 hn2 hz2
          cases hgij : g i j
          · rw [hgij] at d1 hst
            simp only [Bool.false_eq_true, if_false] at hst
            rw [hst, if_neg (by simp; omega)] at hws
            rw [hws] at hwf
            have hful : fullG K g i j = false := by rw [← hwf]; simp; omega
            have HFU := hide hful
            have HST := hide hst
            have HWS := hide hws
            have hq1 : ¬ ((0 : Int) ≥ (K : Int)) := by omega
            clear hst hws hwf hful hgij
            go_wp2_with fail
            go_roundw
            case rel =>
              refine ⟨j, 0, f2, H2, by omega, rfl, rfl, HWS.out.symm, by omega, hout2, fun u v hu hv => (HF2.out u v hu hv).trans (sqD_no HFU.out).symm, hhi2, fun r x hr hx => ?_, hbz2⟩
              rw [HH2.out r x hr hx]
              by_cases e : r = i ∧ x = j
              · rw [e.1, e.2, if_neg (by omega), if_pos (by omega), HST.out]
              · by_cases e2 : i + 1 ≤ r ∨ (r = i ∧ j + 1 ≤ x)
                · rw [if_pos e2, if_pos (by omega)]
                · rw [if_neg e2, if_neg (by omega)]
            case measure => simp [intOf] <;> omega
          · rw [hgij] at d1 hst
            simp only [if_true] at hst
            have HST := hide hst
            have hout3 : _root_.Go.World.rowIs _ w2.heap.size 103 6400 (gv f2) := (hout2.setOther (a := ⟨w2.heap.size + 1, i * 80 + j, none⟩) (by simp) (.int .i64 ((h1 + 1 : Nat) : Int))).drew
            have hhi3 : _root_.Go.World.rowIs _ (w2.heap.size + 1) 130 6480 (hv (updH H2 i j (h1 + 1))) := (hrow_upd hhi2 hj80 (h1 + 1)).drew
            rw [show ((h1 + 1 : Nat) : Int) = (h1 : Int) + 1 from by omega] at hout3 hhi3
            by_cases hq : K ≤ h1 + 1
            · have hq1 : ((h1 : Int) + 1 ≥ (K : Int)) := by omega
              rw [hst, if_pos (by simpa using hq)] at hws
              rw [hws] at hwf
              have HWS := hide hws
              by_cases hq2 : K ≤ wd + 1
              · have hful : fullG K g i j = true := by rw [← hwf]; simpa using hq2
                have hq3 : ((wd : Int) + 1 ≥ (K : Int)) := by omega
                have HFU := hide hful
                have HRE := hide hout3
                clear hst hws hwf hful hgij hq hq2
                go_wp2_with fail
                have hx2 : (0 : Int) ≤ (i : Int) + 1 := by omega
                have hx7 : (i : Int) < 81 := by omega
                have hx5 : (i : Int) + 1 < 81 := by omega
                have hx3 : IntKind.i64.wrap ((i : Int) + 1) = (i : Int) + 1 := IntWalk.i64_in _ (by omega)
                have hx4 : ((i : Int) + 1).toNat = i + 1 := by omega
                have hx6 : IntKind.i64.wrap ((h1 : Int) + 1) = (h1 : Int) + 1 := IntWalk.i64_in _ (by omega)
                go_still_tail 11, (by kernel_rfl)
                clear hx2 hx3 hx4 hx5 hx6 hx7
                change wpList _ _ _ _ _ (World.drew _)
                go_wp2_with (go_at_call 121; refine (impl_put2 _ _ _ _ _ _ _ _ HRE.out).mono ?_; rintro e w5 ⟨rfl, hrow5, hsm5, hb5⟩)
                go_roundw
                case rel =>
                  refine ⟨j, wd + 1, _, updH H2 i j (h1 + 1), by omega, rfl, by go_num, HWS.out.symm, ?_, hrow5, fun u v hu hv => ?_, ?_, ?_, ?_⟩
                  · have := wid_le g K (80 - i) (80 - j); rw [HWS.out] at this; omega
                  · rw [Bool.or_eq_true, HF2.out u v hu hv, sq_has]
                    exact (sqD_yes HFU.out hi80 hj80).symm
                  · exact hhi3.of_block (hsm5 _ (by simp) hhi3.lt)
                  · exact upd_hgt HH2.out HST.out hj80 (by omega)
                  · exact (hbz2.setCell (Nat.le_succ _) _).drew.trans hb5
                case measure => simp [intOf] <;> omega
              · have hful : fullG K g i j = false := by rw [← hwf]; simp; omega
                have hq3 : ¬ ((wd : Int) + 1 ≥ (K : Int)) := by omega
                have HFU := hide hful
                clear hst hws hwf hful hgij hq hq2
                go_wp2_with fail
                have hx2 : (0 : Int) ≤ (i : Int) + 1 := by omega
                have hx7 : (i : Int) < 81 := by omega
                have hx5 : (i : Int) + 1 < 81 := by omega
                have hx3 : IntKind.i64.wrap ((i : Int) + 1) = (i : Int) + 1 := IntWalk.i64_in _ (by omega)
                have hx4 : ((i : Int) + 1).toNat = i + 1 := by omega
                have hx6 : IntKind.i64.wrap ((h1 : Int) + 1) = (h1 : Int) + 1 := IntWalk.i64_in _ (by omega)
                go_still_tail 11, (by kernel_rfl)
                clear hx2 hx3 hx4 hx5 hx6 hx7
                change wpList _ _ _ _ _ (World.drew _)
                go_wp2_with fail
                go_roundw
                case rel =>
                  refine ⟨j, wd + 1, f2, updH H2 i j (h1 + 1), by omega, rfl, by go_num, HWS.out.symm, ?_, hout3, fun u v hu hv => (HF2.out u v hu hv).trans (sqD_no HFU.out).symm, hhi3, ?_, (hbz2.setCell (Nat.le_succ _) _).drew⟩
                  · have := wid_le g K (80 - i) (80 - j); rw [HWS.out] at this; omega
                  · exact upd_hgt HH2.out HST.out hj80 (by omega)
                case measure => simp [intOf] <;> omega
            · have hq1 : ¬ ((h1 : Int) + 1 ≥ (K : Int)) := by omega
              rw [hst, if_neg (by simp; omega)] at hws
              rw [hws] at hwf
              have hful : fullG K g i j = false := by rw [← hwf]; simp; omega
              have hq3 : ¬ ((0 : Int) ≥ (K : Int)) := by omega
              have HFU := hide hful
              have HWS := hide hws
              clear hst hws hwf hful hgij hq
              go_wp2_with fail
              have hx2 : (0 : Int) ≤ (i : Int) + 1 := by omega
              have hx7 : (i : Int) < 81 := by omega
              have hx5 : (i : Int) + 1 < 81 := by omega
              have hx3 : IntKind.i64.wrap ((i : Int) + 1) = (i : Int) + 1 := IntWalk.i64_in _ (by omega)
              have hx4 : ((i : Int) + 1).toNat = i + 1 := by omega
              have hx6 : IntKind.i64.wrap ((h1 : Int) + 1) = (h1 : Int) + 1 := IntWalk.i64_in _ (by omega)
              go_still_tail 11, (by kernel_rfl)
              clear hx2 hx3 hx4 hx5 hx6 hx7
              change wpList _ _ _ _ _ (World.drew _)
              go_wp2_with fail
              go_roundw
              case rel =>
                exact ⟨j, 0, f2, updH H2 i j (h1 + 1), by omega, rfl, rfl, HWS.out.symm, by omega, hout3, fun u v hu hv => (HF2.out u v hu hv).trans (sqD_no HFU.out).symm, hhi3, upd_hgt HH2.out HST.out hj80 (by omega), (hbz2.setCell (Nat.le_succ _) _).drew⟩
              case measure => simp [intOf] <;> omega
set_option maxRecDepth 100000 in
set_option maxHeartbeats 1600000 in
theorem impl_SquareCover (l : List Rc) (k : Int) (a : Option Addr) (cap : Nat) (w : World) (h : RectsAt w.heap.size w a l) (hn : l.length ≤ 2000000) : Calls Try.prog 60 #[.slice a l.length cap, .int .i64 k] w (RetS w (sqR k l)) := by
  cases hv : sizB l k
  · rw [show sqR k l = [] from by simp [sqR, hv]]
    go_enter Try.func60, Try.ntmps60
    go_wp2_with fail
    go_at_call 98
    refine (impl_sizable l k _ _ _ h hn).mono ?_
    rintro e w1 ⟨rfl, hb1⟩
    go_wp2_with fail
    go_ret
    exact retS_nil rfl hb1
  by_cases hk0 : k = 0
  · subst hk0
    rw [show sqR 0 l = [] from by simp [sqR]]
    go_enter Try.func60, Try.ntmps60
    go_wp2_with fail
    go_at_call 98
    refine (impl_sizable l 0 _ _ _ h hn).mono ?_
    rintro e w1 ⟨rfl, hb1⟩
    go_wp2_with fail
    go_ret
    exact retS_nil rfl hb1
  have hv2 := hv
  rw [sizB, Bool.and_eq_true, inR_iff] at hv2
  obtain ⟨K, rfl⟩ : ∃ K : Nat, k = (K : Int) := ⟨k.toNat, by omega⟩
  have hK : 0 < K ∧ K ≤ 10 := by omega
  have hq0 : ((K : Int) == 0) = false := by simpa using hk0
  rw [show sqR (K : Int) l = regionL (sqG K (bitsOf l)) from by simp [sqR, hv, hq0]]
  have hl := (isReg_iff.1 hv2.1).1
  have HK := hide hK
  clear hv2 hk0 hK
  go_enter Try.func60, Try.ntmps60
  go_wp2_with fail
  go_at_call 98
  refine (impl_sizable l _ _ _ _ h hn).mono ?_
  rintro e w1 ⟨rfl, hb1⟩
  go_wp2_with fail
  go_at_call 114
  refine (impl_squareCover l K HK.out _ _ _ (h.kept hb1) (by omega)).mono ?_
  rintro e w2 ⟨a2, c2, rfl, ho2, hb2⟩
  go_wp2_with fail
  go_ret
  exact ⟨a2, c2, rfl, own_base ho2 hb1.size, bel_trans hb1 hb2⟩
end Go.Proofs.Ytldgjocjcbhkmaa
