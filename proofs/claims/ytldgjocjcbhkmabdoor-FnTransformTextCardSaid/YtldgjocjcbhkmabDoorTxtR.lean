/- Contracts: numbers read by the program; the words of a text (library); what a text parses to. -/
import Derived.Test.YtldgjocjcbhkmabDoorTxtU
import Derived.Lib.AtoiErrMem
namespace Go.Proofs.YtldgjocjcbhkmabDoor
open Go.RowKit
attribute [local go_sem low] cell_alloc_ite frozen_alloc_ite

theorem var_kept {P : Program} {w w' : World} {n : String} {cs : Array Value} (h : w.var? P n = some cs) (hb : Below w.heap.size w w') : w'.var? P n = some cs := by
  unfold World.var? at h ⊢
  cases hg : P.globalNamed n with
  | none => rw [hg] at h; simp at h
  | some g =>
    rw [hg] at h
    simp only [Option.bind_some] at h ⊢
    have hlt : g < w.heap.size := by
      rcases Nat.lt_or_ge g w.heap.size with h1 | h1
      · exact h1
      · rw [Array.getElem?_eq_none h1] at h; cases h
    rw [hb.block g hlt]
    exact h
/-- What the library reads of its own variables. -/
structure Env (w : World) : Prop where
  tab : Tab w
  maxl : ∃ m, w.cell? ⟨1, 0, none⟩ = some (.int .i64 m)
  syn : ∃ tp p, w.var? Tryd.prog "strconv.ErrSyntax" = some #[.iface tp p]
  rng : ∃ tp p, w.var? Tryd.prog "strconv.ErrRange" = some #[.iface tp p]
theorem Env.kept {w w' : World} (h : Env w) (hb : Below w.heap.size w w') : Env w' := by
  obtain ⟨m, hm⟩ := h.maxl
  obtain ⟨t1, p1, h1⟩ := h.syn
  obtain ⟨t2, p2, h2⟩ := h.rng
  exact ⟨h.tab.kept hb, ⟨m, keep_cell hb hm⟩, ⟨t1, p1, var_kept h1 hb⟩, ⟨t2, p2, var_kept h2 hb⟩⟩
theorem parse_bounds {l : List UInt8} {v : Int} (h : Lib.parseIntB 64 l = .ok v) : -9223372036854775808 ≤ v ∧ v ≤ 9223372036854775807 := by
  have p63 : (2 : Nat) ^ (64 - 1) = 9223372036854775808 := by decide
  unfold Lib.parseIntB at h
  cases l with
  | nil => cases h
  | cons c r =>
    simp only at h
    split at h
    · cases h
    · cases h
    · rename_i u _
      rw [p63] at h
      by_cases hn : c.toNat = 45
      · rw [if_neg (by simp [hn])] at h
        split at h
        · cases h
        · rename_i hu
          simp only [hn, true_and, Nat.not_lt] at hu
          cases h
          omega
      · split at h
        · cases h
        · rename_i hu
          simp only [hn, not_false_eq_true, true_and, Nat.not_le] at hu
          rw [if_neg (by simp [hn])] at h
          cases h
          omega
theorem rd_none {l : List UInt8} (h : rdO l = none) : rdV l = 0 ∧ rdB l = false := by simp [rdV, rdB, h]
theorem rd_some {l : List UInt8} {v : Int} (h : rdO l = some v) : rdV l = v ∧ rdB l = true := by simp [rdV, rdB, h]
theorem ret_rd_no {w w' : World} {l : List UInt8} {e : Ending} (h : rdO l = none) (he : e = .returned (.tuple #[.int .i64 0, .bool false])) (hb : Below w.heap.size w w') : RetNB w (rdV l) (rdB l) e w' := by
  obtain ⟨h1, h2⟩ := rd_none h
  rw [h1, h2]
  exact ⟨he, hb⟩
theorem ret_rd_yes {w w' : World} {l : List UInt8} {v : Int} {e : Ending} (h : rdO l = some v) (he : e = .returned (.tuple #[.int .i64 v, .bool true])) (hb : Below w.heap.size w w') : RetNB w (rdV l) (rdB l) e w' := by
  obtain ⟨h1, h2⟩ := rd_some h
  rw [h1, h2]
  exact ⟨he, hb⟩
set_option maxRecDepth 100000 in
set_option maxHeartbeats 1600000 in
theorem impl_readDecimal (s : ByteArray) (hs : s.size ≤ 2000000) (w : World) (he : Env w) : Calls Tryd.prog 23 #[.string s] w (RetNB w (rdV s.data.toList) (rdB s.data.toList)) := by
  have hsz : s.data.toList.length = s.size := Array.length_toList
  have HSZ := hide hsz
  clear hsz
  by_cases h19 : s.size ≤ 19
  · have g1 : ¬ ((s.size : Int) > 19) := by omega
    have g2 : (s.size : Int) ≤ 19 := by omega
    cases hp : Lib.parseIntB 64 s.data.toList with
    | ok v =>
      have HB := hide (parse_bounds hp)
      have HP := hide hp
      clear hp
      by_cases hq : Lib.itoa v = s.data.toList
      · have HO := hide (show rdO s.data.toList = some v by rw [rdO, if_pos (by have := HSZ.out; omega), HP.out]; simp [hq])
        have hne : (Lib.itoa v == s.toList) = true := by rw [Lib.toList_data, hq]; simp
        clear hq
        go_enter Tryd.func23, Tryd.ntmps23
        go_wp2_with fail
        go_at_call 33
        refine (Tryd.strconv_ParseInt_10_at64_ok s (by omega) v HP.out w).mono ?_
        rintro e w1 ⟨rfl, hw1⟩
        have hb1 : Below w.heap.size w w1 := by
          rcases hw1 with rfl | ⟨t, rfl⟩
          · exact Below.refl _ _
          · exact Lib.bytesWorld_below _ _ _
        clear hw1
        go_wp2_with fail
        go_at_call 19
        refine (impl_decimal v HB.out w1 (he.tab.kept hb1)).mono ?_
        rintro e w2 ⟨rfl, hb2⟩
        go_wp2_with fail
        go_ret2
        exact ret_rd_yes HO.out rfl (bel_trans hb1 hb2)
      · have HO := hide (show rdO s.data.toList = none by rw [rdO, if_pos (by have := HSZ.out; omega), HP.out]; simp [hq])
        have hne : (Lib.itoa v == s.toList) = false := by rw [Lib.toList_data]; simpa using hq
        clear hq
        go_enter Tryd.func23, Tryd.ntmps23
        go_wp2_with fail
        go_at_call 33
        refine (Tryd.strconv_ParseInt_10_at64_ok s (by omega) v HP.out w).mono ?_
        rintro e w1 ⟨rfl, hw1⟩
        have hb1 : Below w.heap.size w w1 := by
          rcases hw1 with rfl | ⟨t, rfl⟩
          · exact Below.refl _ _
          · exact Lib.bytesWorld_below _ _ _
        clear hw1
        go_wp2_with fail
        go_at_call 19
        refine (impl_decimal v HB.out w1 (he.tab.kept hb1)).mono ?_
        rintro e w2 ⟨rfl, hb2⟩
        go_wp2_with fail
        go_ret2
        exact ret_rd_no HO.out rfl (bel_trans hb1 hb2)
    | «syntax» =>
      have HO := hide (show rdO s.data.toList = none by rw [rdO, if_pos (by have := HSZ.out; omega), hp])
      have HP := hide hp
      clear hp
      obtain ⟨tp, p, hv⟩ := he.syn
      have HV := hide hv
      clear hv
      go_enter Tryd.func23, Tryd.ntmps23
      go_wp2_with fail
      go_at_call 33
      refine (Tryd.strconv_ParseInt_10_at64_syntax_var s (by omega) HP.out tp p w HV.out).mono ?_
      rintro e w1 ⟨N, rfl, _, _, hb1⟩
      go_wp2_with fail
      go_ret2
      exact ret_rd_no HO.out rfl hb1
    | range =>
      have HO := hide (show rdO s.data.toList = none by rw [rdO, if_pos (by have := HSZ.out; omega), hp])
      have HP := hide hp
      clear hp
      obtain ⟨tp, p, hv⟩ := he.rng
      have HV := hide hv
      clear hv
      go_enter Tryd.func23, Tryd.ntmps23
      go_wp2_with fail
      go_at_call 33
      refine (Tryd.strconv_ParseInt_10_at64_range_var s (by omega) HP.out tp p w HV.out).mono ?_
      rintro e w1 ⟨N, rfl, _, _, hb1⟩
      go_wp2_with fail
      go_ret2
      exact ret_rd_no HO.out rfl hb1
  · have HO := hide (show rdO s.data.toList = none by rw [rdO, if_neg (by have := HSZ.out; omega)])
    have g1 : (s.size : Int) > 19 := by omega
    have g2 : (19 : Int) < (s.size : Int) := by omega
    go_enter Tryd.func23, Tryd.ntmps23
    go_wp2_with fail
    go_ret2
    exact ret_rd_no HO.out rfl (Below.refl _ _)

/-! ### what a text parses to -/
theorem fmtS_data {o x y : Int} (h : vTr o x y = true) : (fmtS o x y).data.toList = fmtL o x y := by rw [fmtS, if_pos h]
def Parsed (s : ByteArray) (o x y : Int) (b : Bool) : Prop := (b = true ∧ vTr o x y = true ∧ fmtS o x y = s) ∨ (b = false ∧ o = 0 ∧ x = 0 ∧ y = 0 ∧ ∀ p u v, vTr p u v = true → fmtS p u v ≠ s)
theorem parsed_one {s : ByteArray} {o x y p u v : Int} {b c : Bool} (h : Parsed s o x y b) (k : Parsed s p u v c) : o = p ∧ x = u ∧ y = v ∧ b = c := by
  rcases h with ⟨rfl, hv, hs⟩ | ⟨rfl, rfl, rfl, rfl, hn⟩
  · rcases k with ⟨rfl, kv, ks⟩ | ⟨rfl, _, _, _, kn⟩
    · obtain ⟨ho, hx, hy⟩ := vTr_iff.1 hv
      obtain ⟨ko, kx, ky⟩ := vTr_iff.1 kv
      have e : fmtL o x y = fmtL p u v := by rw [← fmtS_data hv, ← fmtS_data kv, hs, ks]
      obtain ⟨e1, e2, e3⟩ := fmt_inj ho hx hy ko kx ky e
      exact ⟨e1, e2, e3, rfl⟩
    · exact absurd hs (kn o x y hv)
  · rcases k with ⟨rfl, kv, ks⟩ | ⟨rfl, rfl, rfl, rfl, _⟩
    · exact absurd ks (hn p u v kv)
    · exact ⟨rfl, rfl, rfl, rfl⟩
/-- The words of the text of a transform. -/
theorem fmt_facts {s : ByteArray} {W : List ByteArray} (hW : W.map (·.data.toList) = wordsL s.data.toList) {p u v : Int} (hv : vTr p u v = true) (hs : fmtS p u v = s) :
    ∃ a b c, W = [a, b, c] ∧ a.data.toList = [letterN p, UInt8.ofNat (48 + (p % 4).toNat)] ∧ b.data.toList = Lib.itoa u ∧ c.data.toList = Lib.itoa v := by
  obtain ⟨hp, hu, hv'⟩ := vTr_iff.1 hv
  rw [← hs, fmtS_data hv, fmt_words hp hu hv'] at hW
  match W, hW with
  | [a, b, c], hW =>
    simp only [List.map_cons, List.map_nil, List.cons.injEq, and_true] at hW
    exact ⟨a, b, c, rfl, hW.1, hW.2.1, hW.2.2⟩
  | [], hW => simp at hW
  | [_], hW => simp at hW
  | [_, _], hW => simp at hW
  | _ :: _ :: _ :: _ :: _, hW => simp at hW
theorem no_three {s : ByteArray} {W : List ByteArray} (hW : W.map (·.data.toList) = wordsL s.data.toList) (h : W.length ≠ 3) (p u v : Int) (hv : vTr p u v = true) : fmtS p u v ≠ s := fun e => by
  obtain ⟨a, b, c, rfl, _⟩ := fmt_facts hW hv e
  exact h rfl
theorem no_two {s a b c : ByteArray} (hW : [a, b, c].map (·.data.toList) = wordsL s.data.toList) (h : a.size ≠ 2) (p u v : Int) (hv : vTr p u v = true) : fmtS p u v ≠ s := fun e => by
  obtain ⟨a', b', c', hq, ha, _⟩ := fmt_facts hW hv e
  simp only [List.cons.injEq, and_true] at hq
  obtain ⟨rfl, rfl, rfl⟩ := hq
  apply h
  have : a.size = a.data.toList.length := Array.length_toList.symm
  rw [this, ha]; rfl
/-- A reader of numbers: it reads what was written. -/
structure Reads (V : List UInt8 → Int) (B : List UInt8 → Bool) : Prop where
  all : ∀ n : Int, -80 ≤ n ∧ n ≤ 80 → V (Lib.itoa n) = n ∧ B (Lib.itoa n) = true
theorem reads_lv : Reads lvV lvB := ⟨fun _ h => ⟨(num80 h).lv, (num80 h).lb⟩⟩
theorem reads_rd : Reads rdV rdB := ⟨fun _ h => rd_some (num80 h).rd⟩
theorem no_num {V : List UInt8 → Int} {B : List UInt8 → Bool} (hr : Reads V B) {s a b c : ByteArray} (hW : [a, b, c].map (·.data.toList) = wordsL s.data.toList) (h : B b.data.toList = false ∨ B c.data.toList = false) (p u v : Int) (hv : vTr p u v = true) : fmtS p u v ≠ s := fun e => by
  obtain ⟨a', b', c', hq, _, hb, hc⟩ := fmt_facts hW hv e
  simp only [List.cons.injEq, and_true] at hq
  obtain ⟨rfl, rfl, rfl⟩ := hq
  obtain ⟨_, hu, hv'⟩ := vTr_iff.1 hv
  rcases h with h | h
  · rw [hb, (hr.all u hu).2] at h; cases h
  · rw [hc, (hr.all v hv').2] at h; cases h
theorem size_two {a : ByteArray} (h : a.size = 2) (h0 : 0 < a.size) (h1 : 1 < a.size) : a.data.toList = [a[0], a[1]] := by
  have hl : a.data.toList.length = 2 := Array.length_toList.trans h
  match hq : a.data.toList, hl with
  | [x, y], _ =>
    have e0 := byte_at a 0 h0
    have e1 := byte_at a 1 h1
    rw [hq] at e0 e1
    simp only [List.getElem?_cons_zero, List.getElem?_cons_succ, Option.some.injEq] at e0 e1
    rw [e0, e1]
theorem no_text {V : List UInt8 → Int} {B : List UInt8 → Bool} (hr : Reads V B) {s a b c : ByteArray} (hW : [a, b, c].map (·.data.toList) = wordsL s.data.toList) (h2 : a.size = 2) (h0 : 0 < a.size) (h1 : 1 < a.size)
    (h : fmtS (oOf a[0] a[1]) (V b.data.toList) (V c.data.toList) ≠ s) (p u v : Int) (hv : vTr p u v = true) : fmtS p u v ≠ s := fun e => by
  obtain ⟨a', b', c', hq, ha, hb, hc⟩ := fmt_facts hW hv e
  simp only [List.cons.injEq, and_true] at hq
  obtain ⟨rfl, rfl, rfl⟩ := hq
  obtain ⟨hp, hu, hv'⟩ := vTr_iff.1 hv
  rw [size_two h2 h0 h1] at ha
  simp only [List.cons.injEq, and_true] at ha
  rw [ha.1, ha.2, oOf_fmt hp, hb, hc, (hr.all u hu).1, (hr.all v hv').1] at h
  exact h e
theorem three_ne {s a b c : ByteArray} (hW : [a, b, c].map (·.data.toList) = wordsL s.data.toList) : s.data.toList ≠ [] := fun e => by
  rw [e] at hW
  simp [wordsL] at hW
theorem yes_text {s : ByteArray} {o x y : Int} (hne : s.data.toList ≠ []) (h : fmtS o x y = s) : Parsed s o x y true := by
  refine .inl ⟨rfl, ?_, h⟩
  cases hv : vTr o x y
  · rw [fmtS, hv] at h
    subst h
    exact absurd rfl hne
  · rfl
theorem no_long {s : ByteArray} (h : 12 < s.size) (p u v : Int) (hv : vTr p u v = true) : fmtS p u v ≠ s := fun e => by
  obtain ⟨hp, hu, hv'⟩ := vTr_iff.1 hv
  have h1 := fmt_len hp hu hv'
  have h2 : s.size = (fmtL p u v).length := by rw [← fmtS_data hv, e]; exact Array.length_toList.symm
  omega
def RetP (s : ByteArray) (w : World) (e : Ending) (w' : World) : Prop := ∃ (o x y : Int) (b : Bool), e = .returned (.tuple #[.agg #[.int .i64 o, .int .i64 x, .int .i64 y], .bool b]) ∧ Parsed s o x y b ∧ Below w.heap.size w w'
theorem retP_no {s : ByteArray} {w w' : World} {e : Ending} (h : ∀ p u v, vTr p u v = true → fmtS p u v ≠ s) (he : e = .returned (.tuple #[.agg #[.int .i64 0, .int .i64 0, .int .i64 0], .bool false])) (hb : Below w.heap.size w w') : RetP s w e w' :=
  ⟨0, 0, 0, false, he, .inr ⟨rfl, rfl, rfl, rfl, h⟩, hb⟩
end Go.Proofs.YtldgjocjcbhkmabDoor
