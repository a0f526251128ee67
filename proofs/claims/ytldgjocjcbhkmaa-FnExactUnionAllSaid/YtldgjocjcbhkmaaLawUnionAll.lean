/- The program's UnionAll returns what the reference's returns, for all arguments. No condition. -/
import Derived.Test.YtldgjocjcbhkmaaRows
import Derived.Test.YtldgjocjcbhkmaaLawS
import Derived.Deep.RegionHeld3
import Derived.Test.YtldgjocjcbhkmaaLawSS
namespace Go.Proofs.Ytldgjocjcbhkmaa.lawFnExactUnionAll
open Go.ChangeShapes Go.WideShapes Go.ChangeAt Go.RowKit Go.Joins

theorem own : ownKnob Try.prog.godebug = none := by kernel_rfl
theorem laidOut : laidOutB Try.prog = true := by kernel_rfl

set_option maxRecDepth 100000 in
set_option maxHeartbeats 3200000 in
theorem walk (ls : List (List Rc)) (a : Option Addr) (c : Nat) (hl : ls.length ≤ maxLen) (w : World) (hin : InSS w.heap.size w a ls) :
    Calls Try.prog 3 #[.slice a ls.length c] w fun e w' => e = .returned (.bool true) ∧ Below w.heap.size w w' := by
  have hbel := Below.refl w.heap.size w
  go_enter Try.func3, Try.ntmps3
  go_wp2_with fail
  go_at_call 15
  refine (laws_szRectSS ls _ _ _ hin hl).mono ?_
  rintro e w1 ⟨he, hb⟩
  replace hbel := hbel.trans (hb.mono hbel.size)
  clear hb
  rcases he with rfl | ⟨rfl, hn⟩
  · go_wp2_with fail
    go_ret
    exact ⟨rfl, hbel⟩
  · have hz : ¬ (1048576 - (ls.length : Int) - (totS ls : Int) < 0) := by omega
    have HN := hide (show ls.length + totS ls ≤ 1048576 by omega)
    have HM : Hid (∀ l ∈ ls, l.length ≤ 2000000) := fun l hl => Nat.le_trans (len_tot HN.out l hl) (by omega)
    have HL : Hid (ls.length ≤ 2000000) := by have := HN.out; show _ ≤ _; omega
    have HLEN := hide (allR_len ls)
    go_wp2_with fail
    go_at_call 17
    refine (laws_toRectSS ls _ _ _ (inss_at hin hbel) HN.out).mono ?_
    rintro e w1 ⟨G_p, f_p, rfl, hs_p, hb⟩
    have hz_p := hbel.size
    replace hbel := hbel.trans (hb.mono hbel.size)
    clear hb
    skip
    go_wp2_with fail
    go_at_call 16
    refine (spec_UnionAll ls _ _ _ (hs_p.at HM.out) HL.out).mono ?_
    rintro e w2 ⟨a_w, c_w, rfl, ho_w, hb⟩
    have sx_w : Hid (∀ i, i < ls.length → (Value.slice a_w (allR ls).length c_w).ownBlock = none ∨ (Value.slice a_w (allR ls).length c_w).ownBlock ≠ (f_p i).ownBlock) := fun i hi => or_symm_ne (own_ne (hs_p.own i ls[i] (List.getElem?_eq_getElem hi)) ho_w)
    replace hs_p := hs_p.next hb
    replace ho_w := own_base ho_w hbel.size
    replace hbel := hbel.trans (hb.mono hbel.size)
    clear hb
    clear hs_p
    go_wp2_with fail
    go_at_call 17
    refine (laws_toRectSS ls _ _ _ (inss_at hin hbel) HN.out).mono ?_
    rintro e w3 ⟨G_x, f_x, rfl, hs_x, hb⟩
    have sp_w_x : Hid (∀ i, i < ls.length → (Value.slice a_w _ c_w).ownBlock = none ∨ (Value.slice a_w _ c_w).ownBlock ≠ (f_x i).ownBlock) := fun i hi => own_ne ho_w (hs_x.own i ls[i] (List.getElem?_eq_getElem hi))
    have hz_x := hbel.size
    replace ho_w := own_next ho_w hb
    replace hbel := hbel.trans (hb.mono hbel.size)
    clear hb
    have hB_x : Hid (w2.heap.size ≤ w3.heap.size) := by have h1 := (hs_x.row).lt; have h2 := hs_x.lo; show _ ≤ _; omega
    go_wp2_with fail
    go_at_call 18
    refine (impl_UnionAll ls _ _ _ (hs_x.at HM.out) HL.out).mono ?_
    rintro e w4 ⟨a_g, c_g, rfl, ho_g, hb⟩
    have sx_g : Hid (∀ i, i < ls.length → (Value.slice a_g (allR ls).length c_g).ownBlock = none ∨ (Value.slice a_g (allR ls).length c_g).ownBlock ≠ (f_x i).ownBlock) := fun i hi => or_symm_ne (own_ne (hs_x.own i ls[i] (List.getElem?_eq_getElem hi)) ho_g)
    have ne_w_g := hide (own_ne ho_w ho_g)
    replace ho_w := own_next ho_w hb
    replace hs_x := hs_x.next hb
    replace ho_g := own_base ho_g hbel.size
    replace hbel := hbel.trans (hb.mono hbel.size)
    clear hb
    go_wp2_with fail
    go_at_call 19
    refine (laws_eqRectS (allR ls) _ _ _ _ _ (rects_at ho_g) (rects_at ho_w) HLEN.out).mono ?_
    rintro e w5 ⟨rfl, hb⟩
    replace ho_w := own_next ho_w hb
    replace ho_g := own_next ho_g hb
    replace hs_x := hs_x.next hb
    replace hbel := hbel.trans (hb.mono hbel.size)
    clear hb
    go_wp2_with fail
    go_at_call 17
    refine (laws_toRectSS ls _ _ _ (inss_at hin hbel) HN.out).mono ?_
    rintro e w6 ⟨G_t, f_t, rfl, hs_t, hb⟩
    have sp_w_t : Hid (∀ i, i < ls.length → (Value.slice a_w _ c_w).ownBlock = none ∨ (Value.slice a_w _ c_w).ownBlock ≠ (f_t i).ownBlock) := fun i hi => own_ne ho_w (hs_t.own i ls[i] (List.getElem?_eq_getElem hi))
    have sp_g_t : Hid (∀ i, i < ls.length → (Value.slice a_g _ c_g).ownBlock = none ∨ (Value.slice a_g _ c_g).ownBlock ≠ (f_t i).ownBlock) := fun i hi => own_ne ho_g (hs_t.own i ls[i] (List.getElem?_eq_getElem hi))
    have hz_t := hbel.size
    replace ho_w := own_next ho_w hb
    replace ho_g := own_next ho_g hb
    replace hs_x := hs_x.next hb
    replace hbel := hbel.trans (hb.mono hbel.size)
    clear hb
    have hB_t : Hid (w5.heap.size ≤ w6.heap.size) := by have h1 := (hs_t.row).lt; have h2 := hs_t.lo; show _ ≤ _; omega
    go_wp2_with fail
    go_at_call 20
    refine (laws_eqRectSS ls _ _ _ _ _ (hs_x.at HM.out) (hs_t.at HM.out) HL.out).mono ?_
    rintro e w7 ⟨rfl, hb⟩
    replace ho_w := own_next ho_w hb
    replace ho_g := own_next ho_g hb
    replace hs_x := hs_x.next hb
    replace hs_t := hs_t.next hb
    replace hbel := hbel.trans (hb.mono hbel.size)
    clear hb
    clear hs_t
    go_wp2_with fail
    go_at_call 21
    refine (laws_markRectSS ls _ _ _ _ _ hs_x (Nat.le_of_lt (Nat.lt_of_le_of_lt hs_x.lo hs_x.row.lt)) HN.out).mono ?_
    rintro e w8 ⟨rfl, hk, hb⟩
    replace ho_w := hk _ _ _ ho_w sp_w_x.out
    replace ho_g := hk _ _ _ ho_g sx_g.out
    replace hbel := hbel.trans (hb.mono hz_x)
    clear hb hk hs_x
    have hkk : ¬ (1 + 4 * (totS ls : Int) < 0) := by omega
    go_wp2_with fail
    go_at_call 19
    refine (laws_eqRectS (allR ls) _ _ _ _ _ (rects_at ho_g) (rects_at ho_w) HLEN.out).mono ?_
    rintro e w9 ⟨rfl, hb⟩
    replace ho_w := own_next ho_w hb
    replace ho_g := own_next ho_g hb
    replace hbel := hbel.trans (hb.mono hbel.size)
    clear hb
    go_wp2_with fail
    go_at_call 22
    refine (laws_markRectS (allR ls) _ _ _ _ ho_g HLEN.out).mono ?_
    rintro e w10 ⟨rfl, ho, hg⟩
    replace ho_w := own_marked ho_w hg ne_w_g.out
    replace hbel := below_marked hbel ho_g hg
    clear hg ho_g
    have ho_g := ho
    clear ho
    have hkL := not_neg_len (allR ls).length
    go_wp2_with fail
    go_at_call 23
    refine (laws_heldRectS (allR ls).length _ _ _ (rects_at ho_g) HLEN.out).mono ?_
    rintro e w11 ⟨rfl, rfl⟩
    go_wp2_with fail
    go_at_call 17
    refine (laws_toRectSS ls _ _ _ (inss_at hin hbel) HN.out).mono ?_
    rintro e w12 ⟨G_y, f_y, rfl, hs_y, hb⟩
    replace ho_w := own_next ho_w hb
    replace ho_g := own_next ho_g hb
    replace hbel := hbel.trans (hb.mono hbel.size)
    clear hb
    go_wp2_with fail
    go_at_call 18
    refine (impl_UnionAll ls _ _ _ (hs_y.at HM.out) HL.out).mono ?_
    rintro e w13 ⟨a_h, c_h, rfl, ho_h, hb⟩
    have ne_w_h := hide (own_ne ho_w ho_h)
    replace ho_w := own_next ho_w hb
    have ne_g_h := hide (own_ne ho_g ho_h)
    replace ho_g := own_next ho_g hb
    replace hs_y := hs_y.next hb
    replace ho_h := own_base ho_h hbel.size
    replace hbel := hbel.trans (hb.mono hbel.size)
    clear hb
    clear hs_y
    go_wp2_with fail
    go_at_call 19
    refine (laws_eqRectS (allR ls) _ _ _ _ _ (rects_at ho_h) (rects_at ho_w) HLEN.out).mono ?_
    rintro e w14 ⟨rfl, hb⟩
    replace ho_w := own_next ho_w hb
    replace ho_g := own_next ho_g hb
    replace ho_h := own_next ho_h hb
    replace hbel := hbel.trans (hb.mono hbel.size)
    clear hb
    go_wp2_with fail
    go_at_call 23
    refine (laws_heldRectS (allR ls).length _ _ _ (rects_at ho_g) HLEN.out).mono ?_
    rintro e w15 ⟨rfl, rfl⟩
    go_wp2_with fail
    go_ret
    exact ⟨rfl, hbel⟩

set_option maxRecDepth 100000 in
theorem lifted (os : Os) (started : os.Started) (H : Type) (enc : TypeId × Value → H) :
    ReturnsInHanded {} Try.checked os 3 .any (Rows.fnExactUnionAllSpec.pre6 enc Try.prog Try.f3 Rows.fnExactUnionAllRow.domain false) (Rows.fnExactUnionAllSpec.post enc Try.prog Try.f3 false true false false) := by
  refine law_lifted (C := Try.checked) (tb := 4) own started (by kernel_rfl) Try.func3 laidOut (by kernel_rfl) Try.underlying4 (by kernel_rfl) rfl
    (ChangeSpec.witness6 (enc := enc) (C := Try.checked) false ⟨#[], #[.slice none 0 0], []⟩ 8 (by kernel_rfl) (by kernel_rfl) (by kernel_rfl) (by kernel_rfl)) ?_
  intro W base args ds ps hval hA hlt
  have hA : DataW.TrodAll enc Try.prog W 0 (fun _ => true) true Try.f3.params.toList args.toList ds ps := hA
  have hval : ∀ (j : Nat) t v, Try.f3.params[j]? = some t → args[j]? = some v → Value.okWide Try.prog W .any base t v := hval
  rw [Try.params3] at hA hval
  obtain ⟨v0, vs0, d0, ds0, p0, q0, hargs, rfl, rfl, h0, r0⟩ := trodAll_cons hA
  obtain ⟨rfl, rfl, rfl⟩ := trodAll_nil r0
  obtain rfl : args = #[v0] := by cases args; simp_all
  refine ⟨rfl, ?_⟩
  obtain ⟨a0, ls0, c0, rfl, hl0, hin0⟩ := open_rectss Try.underlying22 (by kernel_rfl) Try.underlying58 Try.underlying108 (by kernel_rfl) (by kernel_rfl) Try.underlying2 rfl rfl rfl rfl (okWide_slice Try.underlying22 (hval 0 22 v0 rfl rfl)) h0
  exact walk ls0 a0 c0 hl0 W hin0

theorem proved : Rows.FnExactUnionAllSaid :=
  OpenClaim.holds_of_wide 3 Try.f3 rfl rfl rfl rfl rfl rfl rfl ⟨rfl, rfl, rfl, rfl, rfl⟩ rfl rfl rfl rfl rfl (by kernel_rfl) Try.func3 (by kernel_rfl)
    (of_decide_eq_true (by kernel_rfl)) (by unfold Func.isWrapper; first | (rw [if_pos (by decide +kernel)]; kernel_rfl) | (rw [if_neg (by decide +kernel)]; exact ⟨rfl, rfl⟩))
    (fun os started H enc _ => lifted os started H enc)

#print axioms proved
end Go.Proofs.Ytldgjocjcbhkmaa.lawFnExactUnionAll
