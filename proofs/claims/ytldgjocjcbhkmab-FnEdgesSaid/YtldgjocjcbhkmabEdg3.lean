/- Contracts: the runs of a line (the program), under the boundary's own closures. -/
import Derived.Test.YtldgjocjcbhkmabEdg2
namespace Go.Proofs.Ytldgjocjcbhkmab
open Go.RowKit
attribute [local go_sem low] cell_alloc_ite frozen_alloc_ite

set_option maxRecDepth 100000 in
set_option maxHeartbeats 3200000 in
theorem impl_runsH (g : Grid) (c b1 b3 b4 n : Nat) (hn : n ≤ 80) (l0 : List Rc) (hl0 : l0.length ≤ 50000) (w0 W : World) (h : Bnd w0 W c b1 b3 b4 g n l0) :
    Calls Try.prog 45 #[.func (.func 46) #[] #[.pointer (some ⟨b1, 0, none⟩), .pointer (some ⟨b4, 0, none⟩)], .func (.func 49) #[] #[.pointer (some ⟨b3, 0, none⟩), .pointer (some ⟨b4, 0, none⟩)]] W
      fun e w' => e = .returned (.tuple #[]) ∧ Bnd w0 w' c b1 b3 b4 g n (l0 ++ (runsAt (kH g n) 0).map (mkH n)) := by
  go_enter Try.func45, Try.ntmps45
  go_wp2_with fail
  go_loopw [4] (fun s4 wr => ∃ (i : Nat) (pre : List (Nat × Nat × Int)), i ≤ 80 ∧ s4 = .int .i64 i ∧ Hid (pre ++ runsAt (kH g n) i = runsAt (kH g n) 0) ∧ Hid (pre.length ≤ i) ∧ Bnd w0 wr c b1 b3 b4 g n (l0 ++ pre.map (mkH n))) (fun s4 _ => 80 - (intOf s4).toNat)
  case atStart => exact ⟨0, [], by omega, rfl, rfl, Nat.le_refl _, by simpa using h⟩
  case round =>
    clear h
    obtain ⟨i, pre, hi, rfl, HP, HQ, hb⟩ := hrel
    by_cases hy : (i : Int) < 80
    · have hi8 : i < 80 := by omega
      obtain ⟨y, HY⟩ : ∃ y, Hid (y = kH g n i) := ⟨_, rfl⟩
      go_wp2_with fail
      go_loopw [5] (fun s5 wz => ∃ e : Nat, i < e ∧ e ≤ 80 ∧ s5 = .int .i64 e ∧ Hid (∀ k, i < k → k < e → k < 80 ∧ kH g n k = kH g n i) ∧ Bnd w0 wz c b1 b3 b4 g n (l0 ++ pre.map (mkH n))) (fun s5 _ => 80 - (intOf s5).toNat)
      case atStart => exact ⟨i + 1, by omega, by omega, by go_num, fun k a b => by omega, hb⟩
      case round =>
        clear hb
        obtain ⟨e, hie, he80, rfl, HE, hb⟩ := hrel
        by_cases he : (e : Int) < 80
        · obtain ⟨x, HX⟩ : ∃ x, Hid (x = kH g n e) := ⟨_, rfl⟩
          by_cases hxy : x = y
          · subst hxy
            go_wp2_with fail
            go_at_call 46
            refine (impl_bnd1 g c _ b1 b4 n e _ hb.row (hb.p.cell (i := 0) (by omega)) (hb.ln.cell (i := 0) (by omega)) hn he80).mono ?_
            rintro e' w1 ⟨he, hbb⟩
            rw [← HX.out] at he
            subst he
            replace hb := hb.kept hbb
            clear hbb
            go_wp2_with fail
            go_at_call 46
            refine (impl_bnd1 g c _ b1 b4 n i _ hb.row (hb.p.cell (i := 0) (by omega)) (hb.ln.cell (i := 0) (by omega)) hn hi).mono ?_
            rintro e' w2 ⟨he, hbb⟩
            rw [← HY.out] at he
            subst he
            replace hb := hb.kept hbb
            clear hbb
            go_wp2_with fail
            go_roundw
            case rel =>
              refine ⟨e + 1, by omega, by omega, by go_num, fun k a b => ?_, hb⟩
              by_cases hk : k = e
              · rw [hk]; exact ⟨by omega, by rw [← HX.out, ← HY.out]⟩
              · exact HE.out k a (by omega)
            case measure => simp [intOf]; omega
          · have hend : endR2 (kH g n) i = e := endR2_unique hie HE.out (fun hh => hxy (by rw [HX.out, HY.out]; exact hh.2))
            have HEND := hide hend
            clear hend
            go_wp2_with fail
            go_at_call 46
            refine (impl_bnd1 g c _ b1 b4 n e _ hb.row (hb.p.cell (i := 0) (by omega)) (hb.ln.cell (i := 0) (by omega)) hn he80).mono ?_
            rintro e' w1 ⟨he, hbb⟩
            rw [← HX.out] at he
            subst he
            replace hb := hb.kept hbb
            clear hbb
            go_wp2_with fail
            go_at_call 46
            refine (impl_bnd1 g c _ b1 b4 n i _ hb.row (hb.p.cell (i := 0) (by omega)) (hb.ln.cell (i := 0) (by omega)) hn hi).mono ?_
            rintro e' w2 ⟨he, hbb⟩
            rw [← HY.out] at he
            subst he
            replace hb := hb.kept hbb
            clear hbb
            by_cases hz : y = 0
            · subst hz
              go_wp2_with fail
              go_at_call 46
              refine (impl_bnd1 g c _ b1 b4 n i _ hb.row (hb.p.cell (i := 0) (by omega)) (hb.ln.cell (i := 0) (by omega)) hn hi).mono ?_
              rintro e' w3 ⟨he, hbb⟩
              rw [← HY.out] at he
              subst he
              replace hb := hb.kept hbb
              clear hbb
              go_wp2_with fail
              go_roundw
              case rel =>
                refine ⟨e, pre, he80, rfl, ?_, ?_, hb⟩
                · rw [Hid, ← HP.out, runsAt_step _ hi8, if_neg (by rw [← HY.out]; simp), HEND.out]; rfl
                · have := HQ.out; show _ ≤ _; omega
              case measure => simp [intOf]; omega
            · skip
              go_wp2_with fail
              go_at_call 46
              refine (impl_bnd1 g c _ b1 b4 n i _ hb.row (hb.p.cell (i := 0) (by omega)) (hb.ln.cell (i := 0) (by omega)) hn hi).mono ?_
              rintro e' w3 ⟨he, hbb⟩
              rw [← HY.out] at he
              subst he
              replace hb := hb.kept hbb
              clear hbb
              go_wp2_with fail
              go_at_call 46
              refine (impl_bnd1 g c _ b1 b4 n i _ hb.row (hb.p.cell (i := 0) (by omega)) (hb.ln.cell (i := 0) (by omega)) hn hi).mono ?_
              rintro e' w4 ⟨he, hbb⟩
              rw [← HY.out] at he
              subst he
              replace hb := hb.kept hbb
              clear hbb
              go_wp2_with fail
              go_at_call 49
              refine (impl_bnd2 g c b1 b3 b4 n _ _ _ (l0 ++ pre.map (mkH n)) (by have := HQ.out; simp; omega) w0 _ hb).mono ?_
              rintro e' w5 ⟨rfl, hb5⟩
              go_wp2_with fail
              go_roundw
              case rel =>
                refine ⟨e, pre ++ [(i, e, y)], he80, rfl, ?_, ?_, ?_⟩
                · rw [Hid, ← HP.out, runsAt_step _ hi8, if_pos (by rw [← HY.out]; exact hz), HEND.out, ← HY.out, List.append_assoc]
                · have := HQ.out; show _ ≤ _; simp; omega
                · rw [List.map_append, ← List.append_assoc]
                  exact hb5
              case measure => simp [intOf]; omega
        · have hend : endR2 (kH g n) i = e := endR2_unique hie HE.out (fun hh => by omega)
          have HEND := hide hend
          clear hend
          by_cases hz : y = 0
          · subst hz
            go_wp2_with fail
            go_at_call 46
            refine (impl_bnd1 g c _ b1 b4 n i _ hb.row (hb.p.cell (i := 0) (by omega)) (hb.ln.cell (i := 0) (by omega)) hn hi).mono ?_
            rintro e' w3 ⟨he, hbb⟩
            rw [← HY.out] at he
            subst he
            replace hb := hb.kept hbb
            clear hbb
            go_wp2_with fail
            go_roundw
            case rel =>
              refine ⟨e, pre, he80, rfl, ?_, ?_, hb⟩
              · rw [Hid, ← HP.out, runsAt_step _ hi8, if_neg (by rw [← HY.out]; simp), HEND.out]; rfl
              · have := HQ.out; show _ ≤ _; omega
            case measure => simp [intOf]; omega
          · skip
            go_wp2_with fail
            go_at_call 46
            refine (impl_bnd1 g c _ b1 b4 n i _ hb.row (hb.p.cell (i := 0) (by omega)) (hb.ln.cell (i := 0) (by omega)) hn hi).mono ?_
            rintro e' w3 ⟨he, hbb⟩
            rw [← HY.out] at he
            subst he
            replace hb := hb.kept hbb
            clear hbb
            go_wp2_with fail
            go_at_call 46
            refine (impl_bnd1 g c _ b1 b4 n i _ hb.row (hb.p.cell (i := 0) (by omega)) (hb.ln.cell (i := 0) (by omega)) hn hi).mono ?_
            rintro e' w4 ⟨he, hbb⟩
            rw [← HY.out] at he
            subst he
            replace hb := hb.kept hbb
            clear hbb
            go_wp2_with fail
            go_at_call 49
            refine (impl_bnd2 g c b1 b3 b4 n _ _ _ (l0 ++ pre.map (mkH n)) (by have := HQ.out; simp; omega) w0 _ hb).mono ?_
            rintro e' w5 ⟨rfl, hb5⟩
            go_wp2_with fail
            go_roundw
            case rel =>
              refine ⟨e, pre ++ [(i, e, y)], he80, rfl, ?_, ?_, ?_⟩
              · rw [Hid, ← HP.out, runsAt_step _ hi8, if_pos (by rw [← HY.out]; exact hz), HEND.out, ← HY.out, List.append_assoc]
              · have := HQ.out; show _ ≤ _; simp; omega
              · rw [List.map_append, ← List.append_assoc]
                exact hb5
            case measure => simp [intOf]; omega
    · obtain rfl : i = 80 := by omega
      go_wp2_with fail
      refine bodyPost_end (v := .tuple #[]) (by simp [results, Try.results45, go_sem]) rfl ⟨rfl, ?_⟩
      have hp := HP.out
      rw [runsAt_end _ (Nat.le_refl _), List.append_nil] at hp
      rw [← hp]
      exact hb
set_option maxRecDepth 100000 in
set_option maxHeartbeats 3200000 in
theorem impl_runsV (g : Grid) (c b1 b3 b4 n : Nat) (hn : n ≤ 80) (l0 : List Rc) (hl0 : l0.length ≤ 50000) (w0 W : World) (h : Bnd w0 W c b1 b3 b4 g n l0) :
    Calls Try.prog 45 #[.func (.func 50) #[] #[.pointer (some ⟨b1, 0, none⟩), .pointer (some ⟨b4, 0, none⟩)], .func (.func 51) #[] #[.pointer (some ⟨b3, 0, none⟩), .pointer (some ⟨b4, 0, none⟩)]] W
      fun e w' => e = .returned (.tuple #[]) ∧ Bnd w0 w' c b1 b3 b4 g n (l0 ++ (runsAt (kV g n) 0).map (mkV n)) := by
  go_enter Try.func45, Try.ntmps45
  go_wp2_with fail
  go_loopw [4] (fun s4 wr => ∃ (i : Nat) (pre : List (Nat × Nat × Int)), i ≤ 80 ∧ s4 = .int .i64 i ∧ Hid (pre ++ runsAt (kV g n) i = runsAt (kV g n) 0) ∧ Hid (pre.length ≤ i) ∧ Bnd w0 wr c b1 b3 b4 g n (l0 ++ pre.map (mkV n))) (fun s4 _ => 80 - (intOf s4).toNat)
  case atStart => exact ⟨0, [], by omega, rfl, rfl, Nat.le_refl _, by simpa using h⟩
  case round =>
    clear h
    obtain ⟨i, pre, hi, rfl, HP, HQ, hb⟩ := hrel
    by_cases hy : (i : Int) < 80
    · have hi8 : i < 80 := by omega
      obtain ⟨y, HY⟩ : ∃ y, Hid (y = kV g n i) := ⟨_, rfl⟩
      go_wp2_with fail
      go_loopw [5] (fun s5 wz => ∃ e : Nat, i < e ∧ e ≤ 80 ∧ s5 = .int .i64 e ∧ Hid (∀ k, i < k → k < e → k < 80 ∧ kV g n k = kV g n i) ∧ Bnd w0 wz c b1 b3 b4 g n (l0 ++ pre.map (mkV n))) (fun s5 _ => 80 - (intOf s5).toNat)
      case atStart => exact ⟨i + 1, by omega, by omega, by go_num, fun k a b => by omega, hb⟩
      case round =>
        clear hb
        obtain ⟨e, hie, he80, rfl, HE, hb⟩ := hrel
        by_cases he : (e : Int) < 80
        · obtain ⟨x, HX⟩ : ∃ x, Hid (x = kV g n e) := ⟨_, rfl⟩
          by_cases hxy : x = y
          · subst hxy
            go_wp2_with fail
            go_at_call 50
            refine (impl_bnd3 g c _ b1 b4 n e _ hb.row (hb.p.cell (i := 0) (by omega)) (hb.ln.cell (i := 0) (by omega)) hn he80).mono ?_
            rintro e' w1 ⟨he, hbb⟩
            rw [← HX.out] at he
            subst he
            replace hb := hb.kept hbb
            clear hbb
            go_wp2_with fail
            go_at_call 50
            refine (impl_bnd3 g c _ b1 b4 n i _ hb.row (hb.p.cell (i := 0) (by omega)) (hb.ln.cell (i := 0) (by omega)) hn hi).mono ?_
            rintro e' w2 ⟨he, hbb⟩
            rw [← HY.out] at he
            subst he
            replace hb := hb.kept hbb
            clear hbb
            go_wp2_with fail
            go_roundw
            case rel =>
              refine ⟨e + 1, by omega, by omega, by go_num, fun k a b => ?_, hb⟩
              by_cases hk : k = e
              · rw [hk]; exact ⟨by omega, by rw [← HX.out, ← HY.out]⟩
              · exact HE.out k a (by omega)
            case measure => simp [intOf]; omega
          · have hend : endR2 (kV g n) i = e := endR2_unique hie HE.out (fun hh => hxy (by rw [HX.out, HY.out]; exact hh.2))
            have HEND := hide hend
            clear hend
            go_wp2_with fail
            go_at_call 50
            refine (impl_bnd3 g c _ b1 b4 n e _ hb.row (hb.p.cell (i := 0) (by omega)) (hb.ln.cell (i := 0) (by omega)) hn he80).mono ?_
            rintro e' w1 ⟨he, hbb⟩
            rw [← HX.out] at he
            subst he
            replace hb := hb.kept hbb
            clear hbb
            go_wp2_with fail
            go_at_call 50
            refine (impl_bnd3 g c _ b1 b4 n i _ hb.row (hb.p.cell (i := 0) (by omega)) (hb.ln.cell (i := 0) (by omega)) hn hi).mono ?_
            rintro e' w2 ⟨he, hbb⟩
            rw [← HY.out] at he
            subst he
            replace hb := hb.kept hbb
            clear hbb
            by_cases hz : y = 0
            · subst hz
              go_wp2_with fail
              go_at_call 50
              refine (impl_bnd3 g c _ b1 b4 n i _ hb.row (hb.p.cell (i := 0) (by omega)) (hb.ln.cell (i := 0) (by omega)) hn hi).mono ?_
              rintro e' w3 ⟨he, hbb⟩
              rw [← HY.out] at he
              subst he
              replace hb := hb.kept hbb
              clear hbb
              go_wp2_with fail
              go_roundw
              case rel =>
                refine ⟨e, pre, he80, rfl, ?_, ?_, hb⟩
                · rw [Hid, ← HP.out, runsAt_step _ hi8, if_neg (by rw [← HY.out]; simp), HEND.out]; rfl
                · have := HQ.out; show _ ≤ _; omega
              case measure => simp [intOf]; omega
            · skip
              go_wp2_with fail
              go_at_call 50
              refine (impl_bnd3 g c _ b1 b4 n i _ hb.row (hb.p.cell (i := 0) (by omega)) (hb.ln.cell (i := 0) (by omega)) hn hi).mono ?_
              rintro e' w3 ⟨he, hbb⟩
              rw [← HY.out] at he
              subst he
              replace hb := hb.kept hbb
              clear hbb
              go_wp2_with fail
              go_at_call 50
              refine (impl_bnd3 g c _ b1 b4 n i _ hb.row (hb.p.cell (i := 0) (by omega)) (hb.ln.cell (i := 0) (by omega)) hn hi).mono ?_
              rintro e' w4 ⟨he, hbb⟩
              rw [← HY.out] at he
              subst he
              replace hb := hb.kept hbb
              clear hbb
              go_wp2_with fail
              go_at_call 51
              refine (impl_bnd4 g c b1 b3 b4 n _ _ _ (l0 ++ pre.map (mkV n)) (by have := HQ.out; simp; omega) w0 _ hb).mono ?_
              rintro e' w5 ⟨rfl, hb5⟩
              go_wp2_with fail
              go_roundw
              case rel =>
                refine ⟨e, pre ++ [(i, e, y)], he80, rfl, ?_, ?_, ?_⟩
                · rw [Hid, ← HP.out, runsAt_step _ hi8, if_pos (by rw [← HY.out]; exact hz), HEND.out, ← HY.out, List.append_assoc]
                · have := HQ.out; show _ ≤ _; simp; omega
                · rw [List.map_append, ← List.append_assoc]
                  exact hb5
              case measure => simp [intOf]; omega
        · have hend : endR2 (kV g n) i = e := endR2_unique hie HE.out (fun hh => by omega)
          have HEND := hide hend
          clear hend
          by_cases hz : y = 0
          · subst hz
            go_wp2_with fail
            go_at_call 50
            refine (impl_bnd3 g c _ b1 b4 n i _ hb.row (hb.p.cell (i := 0) (by omega)) (hb.ln.cell (i := 0) (by omega)) hn hi).mono ?_
            rintro e' w3 ⟨he, hbb⟩
            rw [← HY.out] at he
            subst he
            replace hb := hb.kept hbb
            clear hbb
            go_wp2_with fail
            go_roundw
            case rel =>
              refine ⟨e, pre, he80, rfl, ?_, ?_, hb⟩
              · rw [Hid, ← HP.out, runsAt_step _ hi8, if_neg (by rw [← HY.out]; simp), HEND.out]; rfl
              · have := HQ.out; show _ ≤ _; omega
            case measure => simp [intOf]; omega
          · skip
            go_wp2_with fail
            go_at_call 50
            refine (impl_bnd3 g c _ b1 b4 n i _ hb.row (hb.p.cell (i := 0) (by omega)) (hb.ln.cell (i := 0) (by omega)) hn hi).mono ?_
            rintro e' w3 ⟨he, hbb⟩
            rw [← HY.out] at he
            subst he
            replace hb := hb.kept hbb
            clear hbb
            go_wp2_with fail
            go_at_call 50
            refine (impl_bnd3 g c _ b1 b4 n i _ hb.row (hb.p.cell (i := 0) (by omega)) (hb.ln.cell (i := 0) (by omega)) hn hi).mono ?_
            rintro e' w4 ⟨he, hbb⟩
            rw [← HY.out] at he
            subst he
            replace hb := hb.kept hbb
            clear hbb
            go_wp2_with fail
            go_at_call 51
            refine (impl_bnd4 g c b1 b3 b4 n _ _ _ (l0 ++ pre.map (mkV n)) (by have := HQ.out; simp; omega) w0 _ hb).mono ?_
            rintro e' w5 ⟨rfl, hb5⟩
            go_wp2_with fail
            go_roundw
            case rel =>
              refine ⟨e, pre ++ [(i, e, y)], he80, rfl, ?_, ?_, ?_⟩
              · rw [Hid, ← HP.out, runsAt_step _ hi8, if_pos (by rw [← HY.out]; exact hz), HEND.out, ← HY.out, List.append_assoc]
              · have := HQ.out; show _ ≤ _; simp; omega
              · rw [List.map_append, ← List.append_assoc]
                exact hb5
            case measure => simp [intOf]; omega
    · obtain rfl : i = 80 := by omega
      go_wp2_with fail
      refine bodyPost_end (v := .tuple #[]) (by simp [results, Try.results45, go_sem]) rfl ⟨rfl, ?_⟩
      have hp := HP.out
      rw [runsAt_end _ (Nat.le_refl _), List.append_nil] at hp
      rw [← hp]
      exact hb
end Go.Proofs.Ytldgjocjcbhkmab
