/- Contracts: the squares that a region covers (the reference). -/
import Derived.Test.YtdnbocngbmbofabRegL
namespace Go.Proofs.Ytdnbocngbmbofab
open Go.RowKit
attribute [local go_sem low] cell_alloc_ite frozen_alloc_ite

theorem hasI_nat {g : Grid} {u v : Nat} : hasI g ((v : Int) - 40) ((u : Int) - 40) = true ↔ u < 80 ∧ v < 80 ∧ g u v = true := by
  simp only [hasI, Bool.and_eq_true, inR_iff, show ((u : Int) - 40 + 40).toNat = u from by omega, show ((v : Int) - 40 + 40).toNat = v from by omega]
  constructor
  · rintro ⟨⟨h1, h2⟩, h3⟩; exact ⟨by omega, by omega, h3⟩
  · rintro ⟨h1, h2, h3⟩; exact ⟨⟨by omega, by omega⟩, h3⟩
theorem full_has {g : Grid} {K i j : Nat} (hK : 0 < K) : fullG K g i j = true ↔ ∀ u v, i ≤ u → u < i + K → j ≤ v → v < j + K → hasI g ((v : Int) - 40) ((u : Int) - 40) = true := by
  rw [fullG_iff]
  constructor
  · rintro ⟨h1, h2, h3⟩ u v hu1 hu2 hv1 hv2
    refine hasI_nat.2 ⟨by omega, by omega, ?_⟩
    have := h3 (u - i) (by omega) (v - j) (by omega)
    rwa [show i + (u - i) = u from by omega, show j + (v - j) = v from by omega] at this
  · intro h
    have h1 := hasI_nat.1 (h (i + K - 1) (j + K - 1) (by omega) (by omega) (by omega) (by omega))
    exact ⟨by omega, by omega, fun a ha b hb => (hasI_nat.1 (h (i + a) (j + b) (by omega) (by omega) (by omega) (by omega))).2.2⟩
def sqR (k : Int) (l : List Rc) : List Rc := if sizB l k && !(k == 0) then regionL (sqG k.toNat (bitsOf l)) else []
theorem sqR_len (k : Int) (l : List Rc) : (sqR k l).length ≤ 2000000 := by
  unfold sqR
  split
  · exact region_lenN _
  · simp
/-- The cells that lie in a full square that starts ahead of (i, j). -/
def sqTo (K : Nat) (g : Grid) (i j u v : Nat) : Prop := ∃ i0 j0, (i0 < i ∨ i0 = i ∧ j0 < j) ∧ i0 < 80 ∧ j0 < 80 ∧ fullG K g i0 j0 = true ∧ i0 ≤ u ∧ u < i0 + K ∧ j0 ≤ v ∧ v < j0 + K
theorem sqTo_zero {K : Nat} {g : Grid} {u v : Nat} : ¬ sqTo K g 0 0 u v := by rintro ⟨i0, j0, h, _⟩; omega
theorem sqTo_row {K : Nat} {g : Grid} {i u v : Nat} : sqTo K g (i + 1) 0 u v ↔ sqTo K g i 80 u v := by
  constructor
  · rintro ⟨i0, j0, h, r⟩; exact ⟨i0, j0, by omega, r⟩
  · rintro ⟨i0, j0, h, r⟩; exact ⟨i0, j0, by omega, r⟩
theorem sqTo_no {K : Nat} {g : Grid} {i j u v : Nat} (hf : fullG K g i j = false) : sqTo K g i (j + 1) u v ↔ sqTo K g i j u v := by
  constructor
  · rintro ⟨i0, j0, h, h1, h2, h3, r⟩
    by_cases e : i0 = i ∧ j0 = j
    · rw [e.1, e.2, hf] at h3; cases h3
    · exact ⟨i0, j0, by omega, h1, h2, h3, r⟩
  · rintro ⟨i0, j0, h, r⟩; exact ⟨i0, j0, by omega, r⟩
theorem sqTo_yes {K : Nat} {g : Grid} {i j u v : Nat} (hf : fullG K g i j = true) (hi : i < 80) (hj : j < 80) : sqTo K g i (j + 1) u v ↔ sqTo K g i j u v ∨ (i ≤ u ∧ u < i + K ∧ j ≤ v ∧ v < j + K) := by
  constructor
  · rintro ⟨i0, j0, h, h1, h2, h3, r⟩
    by_cases e : i0 = i ∧ j0 = j
    · obtain ⟨rfl, rfl⟩ := e; exact .inr r
    · exact .inl ⟨i0, j0, by omega, h1, h2, h3, r⟩
  · rintro (⟨i0, j0, h, r⟩ | r)
    · exact ⟨i0, j0, by omega, r⟩
    · exact ⟨i, j, by omega, hi, hj, hf, r⟩
theorem sqTo_all {K : Nat} {g : Grid} {u v : Nat} : sqTo K g 80 0 u v ↔ sqG K g u v = true := by
  rw [sqG_iff]
  constructor
  · rintro ⟨i0, j0, h, h1, h2, r⟩; exact ⟨i0, h1, j0, h2, r⟩
  · rintro ⟨i0, h1, j0, h2, r⟩; exact ⟨i0, j0, by omega, h1, h2, r⟩
theorem row_iff {w : World} {b t : Nat} {f : Grid} {X : Nat → Nat → Prop} (hr : w.rowIs b t 6400 (gv f)) (hX : ∀ u v, u < 80 → v < 80 → (f u v = true ↔ X u v)) {i k : Nat} (hk : k < 80) :
    (w.setCell ⟨b, i * 80 + k, none⟩ (.bool true)).rowIs b t 6400 (gv (upd f i k true)) ∧ ∀ u v, u < 80 → v < 80 → (upd f i k true u v = true ↔ X u v ∨ (u = i ∧ v = k)) := by
  refine ⟨row_upd hr hk true, fun u v hu hv => ?_⟩
  by_cases e : u = i ∧ v = k
  · simp [upd, e]
  · rw [upd_other e, hX u v hu hv]
    exact ⟨.inl, fun h => h.resolve_right e⟩
set_option maxRecDepth 100000 in
set_option maxHeartbeats 1600000 in
theorem spec_l05Full (g : Grid) (b1 t1 i j K : Nat) (hK : 0 < K ∧ K ≤ 10) (hi : i < 80) (hj : j < 80) (w : World) (h1 : w.rowIs b1 t1 6400 (gv g)) :
    Calls Try.prog 72 #[.slice (some ⟨b1, 0, none⟩) 6400 6400, .int .i64 ((j : Int) - 40), .int .i64 ((i : Int) - 40), .int .i64 (K : Int)] w fun e w' => e = .returned (.bool (fullG K g i j)) ∧ w = w' := by
  obtain ⟨hK0, hK1⟩ := hK
  go_enter Try.func72, Try.ntmps72
  go_wp2_with fail
  go_loopw [9] (fun s wr => ∃ p : Nat, i ≤ p ∧ p ≤ i + K ∧ s = .int .i64 ((p : Int) - 40) ∧ (∀ u v, i ≤ u → u < p → j ≤ v → v < j + K → hasI g ((v : Int) - 40) ((u : Int) - 40) = true) ∧ wr = w) (fun s _ => (100 - intOf s).toNat)
  case atStart => exact ⟨i, Nat.le_refl _, by omega, rfl, fun u v h1 h2 => absurd h2 (by omega), rfl⟩
  case round =>
    obtain ⟨p, hp1, hp2, rfl, hall, rfl⟩ := hrel
    have HA := hide hall
    clear hall
    by_cases hy : (p : Int) - 40 < (i : Int) - 40 + K
    · go_wp2_with fail
      go_loopw [10] (fun s wz => ∃ q : Nat, j ≤ q ∧ q ≤ j + K ∧ s = .int .i64 ((q : Int) - 40) ∧ (∀ v, j ≤ v → v < q → hasI g ((v : Int) - 40) ((p : Int) - 40) = true) ∧ wz = wr) (fun s _ => (100 - intOf s).toNat)
      case atStart => exact ⟨j, Nat.le_refl _, by omega, rfl, fun v h1 h2 => absurd h2 (by omega), rfl⟩
      case round =>
        obtain ⟨q, hq1, hq2, rfl, hall2, rfl⟩ := hrel
        have HA2 := hide hall2
        clear hall2
        by_cases hx : (q : Int) - 40 < (j : Int) - 40 + K
        · cases hh : hasI g ((q : Int) - 40) ((p : Int) - 40)
          · have HH := hide hh
            have hno : fullG K g i j = false := by
              rw [Bool.eq_false_iff]
              intro hf
              have := (full_has hK0).1 hf p q hp1 (by omega) hq1 (by omega)
              rw [hh] at this
              cases this
            have HNO := hide hno
            clear hh hno
            go_wp2_with (go_at_call 121; refine (spec_l03Has g _ _ _ _ _ h1).mono ?_; rintro e w1 ⟨he, rfl⟩; rw [HH.out] at he; subst he)
            go_ret
            exact ⟨by rw [HNO.out]; rfl, rfl⟩
          · have HH := hide hh
            clear hh
            go_wp2_with (go_at_call 121; refine (spec_l03Has g _ _ _ _ _ h1).mono ?_; rintro e w1 ⟨he, rfl⟩; rw [HH.out] at he; subst he)
            go_roundw
            case rel =>
              refine ⟨q + 1, by omega, by omega, by refine congrArg (Value.int .i64) ?_; omega, fun v hv1 hv2 => ?_, by first | trivial | rfl⟩
              by_cases e : v = q
              · rw [e]; exact HH.out
              · exact HA2.out v hv1 (by omega)
            case measure => simp [intOf]; omega
        · go_wp2_with fail
          go_roundw
          case rel =>
            refine ⟨p + 1, by omega, by omega, by refine congrArg (Value.int .i64) ?_; omega, fun u v hu1 hu2 hv1 hv2 => ?_, by first | trivial | rfl⟩
            by_cases e : u = p
            · rw [e]; exact HA2.out v hv1 (by omega)
            · exact HA.out u v hu1 (by omega) hv1 hv2
          case measure => simp [intOf]; omega
    · have hyes : fullG K g i j = true := (full_has hK0).2 fun u v hu1 hu2 hv1 hv2 => HA.out u v hu1 (by omega) hv1 hv2
      have HYES := hide hyes
      clear hyes
      go_wp2_with fail
      go_ret
      exact ⟨by rw [HYES.out]; rfl, rfl⟩
set_option maxRecDepth 100000 in
set_option maxHeartbeats 3200000 in
theorem spec_SquareCover (l : List Rc) (k : Int) (a : Option Addr) (cap : Nat) (w : World) (h : RectsAt w.heap.size w a l) (hn : l.length ≤ 2000000) : Calls Try.prog 16 #[.slice a l.length cap, .int .i64 k] w (RetS w (sqR k l)) := by
  cases hv : isReg l
  · rw [show sqR k l = [] from by simp [sqR, sizB, hv]]
    go_enter Try.func16, Try.ntmps16
    go_wp2_with fail
    go_at_call 69
    refine (spec_l03Ok l _ _ _ h hn).mono ?_
    rintro e w1 ⟨rfl, hb1⟩
    go_wp2_with fail
    go_ret
    exact retS_nil rfl hb1
  cases hk : inR k 0 10
  · rw [show sqR k l = [] from by simp [sqR, sizB, hk]]
    go_enter Try.func16, Try.ntmps16
    go_wp2_with fail
    go_at_call 69
    refine (spec_l03Ok l _ _ _ h hn).mono ?_
    rintro e w1 ⟨rfl, hb1⟩
    go_wp2_with (go_at_call 70; refine (spec_l05Size _ _).mono ?_; rintro e w2 ⟨rfl, rfl⟩)
    go_ret
    exact retS_nil rfl hb1
  by_cases hk0 : k = 0
  · subst hk0
    rw [show sqR 0 l = [] from by simp [sqR]]
    go_enter Try.func16, Try.ntmps16
    go_wp2_with fail
    go_at_call 69
    refine (spec_l03Ok l _ _ _ h hn).mono ?_
    rintro e w1 ⟨rfl, hb1⟩
    go_wp2_with (go_at_call 70; refine (spec_l05Size _ _).mono ?_; rintro e w2 ⟨rfl, rfl⟩)
    go_ret
    exact retS_nil rfl hb1
  have hk2 := inR_iff.1 hk
  obtain ⟨K, rfl⟩ : ∃ K : Nat, k = (K : Int) := ⟨k.toNat, by omega⟩
  have hK0 : 0 < K := by omega
  have hK1 : K ≤ 10 := by omega
  have hq0 : ((K : Int) == 0) = false := by simpa using hk0
  have hres : sqR (K : Int) l = regionL (sqG K (bitsOf l)) := by simp [sqR, sizB, hv, hk, hq0]
  rw [hres]
  have hok := isReg_iff.1 hv
  have HOK := hide hok
  have hm : ∀ w : World, (Instr.makeSlice 64 (.int .i64 6400) (.int .i64 6400)).run Try.prog w = .ok (.slice (some ⟨w.heap.size, 0, none⟩) 6400 6400) (w.alloc (.cells (madeCells #[.bool false] 6400) 4)) :=
    fun w => run_make_row' (P := Try.prog) 64 4 (.bool false) 1 Try.underlying64 bool_info rfl .i64 .i64 6400 (by omega) (by omega) w
  clear hok hk2 hres hk0
  go_enter Try.func16, Try.ntmps16
  go_wp2_with fail
  go_at_call 69
  refine (spec_l03Ok l _ _ _ h hn).mono ?_
  rintro e w1 ⟨rfl, hb1⟩
  go_wp2_with fail
  go_at_call 70
  refine (spec_l05Size _ _).mono ?_
  rintro e w1' ⟨rfl, rfl⟩
  go_wp2_with fail
  go_at_call 71
  refine (spec_l03Bits l _ _ _ (h.kept hb1) (by have := HOK.out.1; omega) HOK.out.2.1).mono ?_
  rintro e w2 ⟨b1, rfl, _, r1, hb2⟩
  have hb := bel_trans hb1 hb2
  have l1 := r1.lt
  obtain ⟨g, hg⟩ : ∃ g, g = bitsOf l := ⟨_, rfl⟩
  rw [← hg] at r1
  have HG := hide hg
  clear hb1 hb2 hg hv hk hq0
  have hz := World.rowIs_made w2 (.bool false) 6400 4
  go_wp2_with fail
  clear hm
  go_loopw [7] (fun s wr => ∃ (i : Nat) (f : Grid), i ≤ 80 ∧ s = .int .i64 ((i : Int) - 40) ∧ wr.rowIs w2.heap.size 4 6400 (gv f) ∧ (∀ u v, u < 80 → v < 80 → (f u v = true ↔ sqTo K g i 0 u v)) ∧ Below w2.heap.size w2 wr) (fun s _ => (40 - intOf s).toNat)
  case atStart => exact ⟨0, fun _ _ => false, Nat.zero_le _, rfl, hz, fun u v _ _ => ⟨fun e => (by cases e), fun e => absurd e sqTo_zero⟩, (by repeat (first | with_reducible exact Below.refl _ _ | with_reducible assumption | with_reducible refine bel_alloc ?_ _ | with_reducible refine bel_drew ?_ | with_reducible refine bel_drewN ?_ _ | with_reducible refine bel_set ?_ (by (try simp) <;> omega) _ | with_reducible refine bel_trans ?_ (by assumption)))⟩
  case round =>
    obtain ⟨i, f, hi, rfl, hrow, hf, hbz⟩ := hrel
    have HF := hide hf
    clear hf hz
    by_cases hy : i < 80
    · have hyI : (i : Int) - 40 < 40 := by omega
      go_wp2_with fail
      go_loopw [8] (fun s wr => ∃ (j : Nat) (f : Grid), j ≤ 80 ∧ s = .int .i64 ((j : Int) - 40) ∧ wr.rowIs w2.heap.size 4 6400 (gv f) ∧ (∀ u v, u < 80 → v < 80 → (f u v = true ↔ sqTo K g i j u v)) ∧ Below w2.heap.size w2 wr) (fun s _ => (40 - intOf s).toNat)
      case atStart => exact ⟨0, f, Nat.zero_le _, rfl, hrow, HF.out, hbz⟩
      case round =>
        obtain ⟨j, f2, hj, rfl, hrow2, hf2, hbz2⟩ := hrel
        have HF2 := hide hf2
        clear hf2 hrow
        by_cases hx : j < 80
        · have hxI : (j : Int) - 40 < 40 := by omega
          have e1 : _root_.Go.World.rowIs _ b1 4 6400 (gv g) := r1.of_block (hbz2.block b1 l1)
          cases hfull : fullG K g i j
          · have HFU := hide hfull
            clear hfull
            go_wp2_with (go_at_call 72; refine (spec_l05Full g _ _ i j K ⟨hK0, hK1⟩ hy hx _ e1).mono ?_; rintro e w3 ⟨he, rfl⟩; rw [HFU.out] at he; subst he)
            go_roundw
            case rel => exact ⟨j + 1, f2, by omega, by go_num, hrow2, fun u v hu hv => (HF2.out u v hu hv).trans (sqTo_no HFU.out).symm, hbz2⟩
            case measure => simp [intOf]; omega
          · have HFU := hide hfull
            have hfi := fullG_iff.1 hfull
            have hik : i + K ≤ 80 := hfi.1
            have hjk : j + K ≤ 80 := hfi.2.1
            clear hfull hfi
            go_wp2_with (go_at_call 72; refine (spec_l05Full g _ _ i j K ⟨hK0, hK1⟩ hy hx _ e1).mono ?_; rintro e w3 ⟨he, rfl⟩; rw [HFU.out] at he; subst he)
            go_loopw [9] (fun s wr => ∃ (p : Nat) (f : Grid), i ≤ p ∧ p ≤ i + K ∧ s = .int .i64 ((p : Int) - 40) ∧ wr.rowIs w2.heap.size 4 6400 (gv f) ∧ (∀ u v, u < 80 → v < 80 → (f u v = true ↔ sqTo K g i j u v ∨ (i ≤ u ∧ u < p ∧ j ≤ v ∧ v < j + K))) ∧ Below w2.heap.size w2 wr) (fun s _ => (100 - intOf s).toNat)
            case atStart =>
              refine ⟨i, f2, Nat.le_refl _, by omega, rfl, hrow2, fun u v hu hv => (HF2.out u v hu hv).trans ⟨.inl, fun h => h.resolve_right (by omega)⟩, hbz2⟩
            case round =>
              obtain ⟨p, f3, hp1, hp2, rfl, hrow3, hf3, hbz3⟩ := hrel
              have HF3 := hide hf3
              clear hf3 hrow2
              by_cases hpy : (p : Int) - 40 < (i : Int) - 40 + K
              · go_wp2_with fail
                go_loopw [10] (fun s wr => ∃ (q : Nat) (f : Grid), j ≤ q ∧ q ≤ j + K ∧ s = .int .i64 ((q : Int) - 40) ∧ wr.rowIs w2.heap.size 4 6400 (gv f) ∧ (∀ u v, u < 80 → v < 80 → (f u v = true ↔ sqTo K g i j u v ∨ (i ≤ u ∧ u < p ∧ j ≤ v ∧ v < j + K) ∨ (u = p ∧ j ≤ v ∧ v < q))) ∧ Below w2.heap.size w2 wr) (fun s _ => (100 - intOf s).toNat)
                case atStart =>
                  refine ⟨j, f3, Nat.le_refl _, by omega, rfl, hrow3, fun u v hu hv => (HF3.out u v hu hv).trans ?_, hbz3⟩
                  constructor
                  · rintro (h | h)
                    · exact .inl h
                    · exact .inr (.inl h)
                  · rintro (h | h | h)
                    · exact .inl h
                    · exact .inr h
                    · omega
                case round =>
                  obtain ⟨q, f4, hq1, hq2, rfl, hrow4, hf4, hbz4⟩ := hrel
                  have HF4 := hide hf4
                  clear hf4 hrow3
                  by_cases hqx : (q : Int) - 40 < (j : Int) - 40 + K
                  · have hp80 : p < 80 := by omega
                    have hq80 : q < 80 := by omega
                    have d3 := hrow4.cell (i := p * 80 + q) (by omega)
                    have d4 := hrow4.frozen (p * 80 + q)
                    go_wp2_with (go_at_call 73; refine (spec_l03At p q hp80 hq80 _).mono ?_; rintro e w4 ⟨rfl, rfl⟩)
                    go_roundw
                    case rel =>
                      obtain ⟨s1, s2⟩ := row_iff hrow4 HF4.out (i := p) hq80
                      refine ⟨q + 1, _, by omega, by omega, by refine congrArg (Value.int .i64) ?_; omega, s1, fun u v hu hv => (s2 u v hu hv).trans ?_, hbz4.setCell (Nat.le_refl _) _⟩
                      constructor
                      · rintro ((h | h | h) | h)
                        · exact .inl h
                        · exact .inr (.inl h)
                        · exact .inr (.inr (by omega))
                        · exact .inr (.inr (by omega))
                      · rintro (h | h | h)
                        · exact .inl (.inl h)
                        · exact .inl (.inr (.inl h))
                        · by_cases e : v = q
                          · exact .inr ⟨h.1, e⟩
                          · exact .inl (.inr (.inr (by omega)))
                    case measure => simp [intOf]; omega
                  · go_wp2_with fail
                    go_roundw
                    case rel =>
                      refine ⟨p + 1, f4, by omega, by omega, by refine congrArg (Value.int .i64) ?_; omega, hrow4, fun u v hu hv => (HF4.out u v hu hv).trans ?_, hbz4⟩
                      constructor
                      · rintro (h | h | h)
                        · exact .inl h
                        · exact .inr (by omega)
                        · exact .inr (by omega)
                      · rintro (h | h)
                        · exact .inl h
                        · by_cases e : u = p
                          · exact .inr (.inr (by omega))
                          · exact .inr (.inl (by omega))
                    case measure => simp [intOf]; omega
              · go_wp2_with fail
                go_roundw
                case rel =>
                  refine ⟨j + 1, f3, by omega, by go_num, hrow3, fun u v hu hv => (HF3.out u v hu hv).trans ((sqTo_yes HFU.out hy hx).trans ?_).symm, hbz3⟩
                  constructor
                  · rintro (h | h)
                    · exact .inl h
                    · exact .inr (by omega)
                  · rintro (h | h)
                    · exact .inl h
                    · exact .inr (by omega)
                case measure => simp [intOf]; omega
        · obtain rfl : j = 80 := by omega
          go_wp2_with fail
          go_roundw
          case rel => exact ⟨i + 1, f2, by omega, by go_num, hrow2, fun u v hu hv => (HF2.out u v hu hv).trans sqTo_row.symm, hbz2⟩
          case measure => simp [intOf]; omega
    · obtain rfl : i = 80 := by omega
      go_wp2_with fail
      go_at_call 74
      refine ((spec_l03Canon _ _ _ _ hrow).mono fun _ _ => retS_of).mono ?_
      rintro e w9 ⟨a9, c9, rfl, ho9, hb9⟩
      have hge : GEq f (sqG K (bitsOf l)) := fun u v hu hv => by
        rw [Bool.eq_iff_iff, HF.out u v hu hv, ← HG.out]
        exact sqTo_all
      rw [regionL_congr hge] at ho9 ⊢
      have hbb := bel_trans hb hbz
      go_wp2_with fail
      go_ret
      exact ⟨a9, c9, rfl, own_base ho9 hbb.size, bel_trans hbb hb9⟩
end Go.Proofs.Ytdnbocngbmbofab
