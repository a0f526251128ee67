/- Plain law of the transforms' texts: words at single blanks, decimal numbers, the text of a transform. No program in sight. -/
import Derived.Lib.ItoaNum
import Derived.Lib.ItoaLen
import Derived.Lib.ParseIntB
import Derived.Lib.SplitLaws
import Derived.Lib.IndexBytes
import Derived.Lib.IndexLaws
namespace Go.Proofs.YtldgjocjcbhkmabDoor
open Go

/-! ### words -/
def wordsL : List UInt8 → List (List UInt8)
  | [] => [[]]
  | c :: r => if c = 32 then [] :: wordsL r else match wordsL r with
    | [] => [[c]]
    | w :: ws => (c :: w) :: ws
theorem words_plain : ∀ {a : List UInt8}, (∀ c ∈ a, c ≠ 32) → wordsL a = [a]
  | [], _ => rfl
  | c :: r, h => by
    rw [wordsL, if_neg (h c (by simp)), words_plain fun x hx => h x (by simp [hx])]
theorem words_cut : ∀ {a : List UInt8} (r : List UInt8), (∀ c ∈ a, c ≠ 32) → wordsL (a ++ 32 :: r) = a :: wordsL r
  | [], r, _ => by rw [List.nil_append, wordsL, if_pos rfl]
  | c :: a, r, h => by
    rw [List.cons_append, wordsL, if_neg (h c (by simp)), words_cut r fun x hx => h x (by simp [hx])]
theorem split_words : ∀ (k : Nat) (s : List UInt8), s.count 32 ≤ k → Lib.splitK [32] 0 k s = wordsL s
  | 0, s, h => by
    have h0 : ∀ c ∈ s, c ≠ 32 := fun c hc e => by
      subst e
      have := List.count_pos_iff.2 hc
      omega
    rw [words_plain h0]; rfl
  | k + 1, s, h => by
    unfold Lib.splitK
    rw [Lib.index_one]
    have hg := Lib.indexByte_ge s 32
    by_cases e : Lib.indexByte s 32 = -1
    · rw [e, if_pos (by decide)]
      have hn := Lib.indexByte_none e
      have h0 : ∀ c ∈ s, c ≠ 32 := fun c hc he => by
        subst he
        obtain ⟨i, hi⟩ := List.mem_iff_getElem?.1 hc
        exact hn i hi
      rw [words_plain h0]
    · obtain ⟨i, hi⟩ : ∃ i : Nat, Lib.indexByte s 32 = i := ⟨(Lib.indexByte s 32).toNat, by omega⟩
      obtain ⟨h1, h2⟩ := Lib.indexByte_some hi
      have hlt : i < s.length := (List.getElem?_eq_some_iff.1 h1).1
      have hs : s = s.take i ++ 32 :: s.drop (i + 1) := by
        have hd := List.drop_eq_getElem_cons hlt
        rw [List.getElem?_eq_getElem hlt, Option.some.injEq] at h1
        rw [h1] at hd
        rw [← hd, List.take_append_drop]
      have ha : ∀ c ∈ s.take i, c ≠ 32 := fun c hc he => by
        subst he
        obtain ⟨j, hj⟩ := List.mem_iff_getElem?.1 hc
        rw [List.getElem?_take] at hj
        split at hj
        · exact h2 j (by assumption) hj
        · cases hj
      have hc : (s.drop (i + 1)).count 32 ≤ k := by
        have := congrArg (List.count 32) hs
        rw [List.count_append, List.count_cons_self] at this
        omega
      have hne : ¬ ((Lib.indexByte s 32 == -1) = true) := by rw [hi]; simp
      rw [if_neg hne, hi]
      simp only [Int.toNat_natCast, Nat.add_zero, List.length_singleton]
      rw [split_words k _ hc]
      conv => rhs; rw [hs]
      rw [words_cut _ ha]

/-! ### numbers -/
def dig2 (u : Nat) : List UInt8 := if u < 10 then [UInt8.ofNat (48 + u)] else [UInt8.ofNat (48 + u / 10), UInt8.ofNat (48 + u % 10)]
theorem dec_small {u : Nat} (h : u < 100) : Lib.decDigits u = dig2 u := by
  unfold dig2
  split
  · exact Lib.decDigits_one (by assumption)
  · exact Lib.decDigits_two (by assumption) h
def itoa2 (n : Int) : List UInt8 := if n < 0 then 45 :: dig2 n.natAbs else dig2 n.toNat
theorem itoa_small {n : Int} (h : -99 ≤ n ∧ n ≤ 99) : Lib.itoa n = itoa2 n := by
  unfold Lib.itoa itoa2
  split
  · rw [dec_small (by omega)]
  · rw [dec_small (by omega)]
/-- The number that the reference reads: its sign, its digits, its value. -/
def lvF (l : List UInt8) : Nat := if l.head? = some 45 then 1 else 0
def lvD (l : List UInt8) : List UInt8 := l.drop (lvF l)
def isDig (c : UInt8) : Bool := decide (48 ≤ c.toNat) && decide (c.toNat ≤ 57)
def lvOk (l : List UInt8) : Bool := decide (1 ≤ (lvD l).length) && decide ((lvD l).length ≤ 9) && (lvD l).all isDig
def lvN (l : List UInt8) : Int := l.foldl (fun n c => 10 * n + ((c.toNat : Int) - 48)) 0
def lvV (l : List UInt8) : Int := if lvOk l then (if lvF l = 1 then -lvN (lvD l) else lvN (lvD l)) else 0
def lvB (l : List UInt8) : Bool := lvOk l && (Lib.itoa (lvV l) == l)
/-- The number that the program reads. -/
def rdO (l : List UInt8) : Option Int := if l.length ≤ 19 then (match Lib.parseIntB 64 l with | .ok v => if Lib.itoa v = l then some v else none | _ => none) else none
def rdV (l : List UInt8) : Int := (rdO l).getD 0
def rdB (l : List UInt8) : Bool := (rdO l).isSome
def goodN (n : Int) : Bool := (itoa2 n).all (fun c => !(c == 32)) && decide (Lib.parseIntB 64 (itoa2 n) = .ok n) && decide ((itoa2 n).length ≤ 3) && lvOk (itoa2 n) && decide ((if lvF (itoa2 n) = 1 then -lvN (lvD (itoa2 n)) else lvN (lvD (itoa2 n))) = n)
theorem goodN_all : ∀ i ∈ List.range 161, goodN ((i : Int) - 80) = true := by decide +kernel
theorem goodN_at {n : Int} (h : -80 ≤ n ∧ n ≤ 80) : goodN n = true := by
  have := goodN_all (n + 80).toNat (List.mem_range.2 (by omega))
  rwa [show (((n + 80).toNat : Nat) : Int) - 80 = n from by omega] at this
structure Num80 (n : Int) : Prop where
  plain : ∀ c ∈ Lib.itoa n, c ≠ 32
  len : (Lib.itoa n).length ≤ 3
  rd : rdO (Lib.itoa n) = some n
  lv : lvV (Lib.itoa n) = n
  lb : lvB (Lib.itoa n) = true
theorem num80 {n : Int} (h : -80 ≤ n ∧ n ≤ 80) : Num80 n := by
  have hg := goodN_at h
  have hi : Lib.itoa n = itoa2 n := itoa_small (by omega)
  simp only [goodN, Bool.and_eq_true, decide_eq_true_eq, List.all_eq_true, Bool.not_eq_true', beq_eq_false_iff_ne] at hg
  obtain ⟨⟨⟨⟨g1, g2⟩, g3⟩, g4⟩, g5⟩ := hg
  have hv : lvV (Lib.itoa n) = n := by rw [hi, lvV, if_pos g4]; exact g5
  exact ⟨by rw [hi]; exact g1, by rw [hi]; exact g3, by rw [rdO, if_pos (by rw [hi]; omega)]; rw [hi, g2]; simp [← hi], hv, by rw [lvB, hv, hi, g4]; simp⟩

/-! ### the text of a transform -/
def letterN (o : Int) : UInt8 := if 4 ≤ o then 109 else 114
def fmtL (o x y : Int) : List UInt8 := letterN o :: (Lib.itoa (o % 4) ++ 32 :: (Lib.itoa x ++ 32 :: Lib.itoa y))
theorem itoa4 {o : Int} (_h : 0 ≤ o ∧ o ≤ 7) : Lib.itoa (o % 4) = [UInt8.ofNat (48 + (o % 4).toNat)] := by
  rw [itoa_small (by omega), itoa2, if_neg (by omega), dig2, if_pos (by omega)]
theorem fmt_words {o x y : Int} (ho : 0 ≤ o ∧ o ≤ 7) (hx : -80 ≤ x ∧ x ≤ 80) (hy : -80 ≤ y ∧ y ≤ 80) :
    wordsL (fmtL o x y) = [[letterN o, UInt8.ofNat (48 + (o % 4).toNat)], Lib.itoa x, Lib.itoa y] := by
  have h4 := itoa4 ho
  have hd : ∀ c ∈ [letterN o, UInt8.ofNat (48 + (o % 4).toNat)], c ≠ 32 := by
    intro c hc
    simp only [List.mem_cons, List.not_mem_nil, or_false] at hc
    rcases hc with rfl | rfl
    · unfold letterN; split <;> decide
    · have : (o % 4).toNat = 0 ∨ (o % 4).toNat = 1 ∨ (o % 4).toNat = 2 ∨ (o % 4).toNat = 3 := by omega
      rcases this with h | h | h | h <;> rw [h] <;> decide
  have hq : fmtL o x y = [letterN o, UInt8.ofNat (48 + (o % 4).toNat)] ++ 32 :: (Lib.itoa x ++ 32 :: Lib.itoa y) := by
    unfold fmtL; rw [h4]; rfl
  rw [hq, words_cut _ hd, words_cut _ (num80 hx).plain, words_plain (num80 hy).plain]
theorem fmt_len {o x y : Int} (ho : 0 ≤ o ∧ o ≤ 7) (hx : -80 ≤ x ∧ x ≤ 80) (hy : -80 ≤ y ∧ y ≤ 80) : (fmtL o x y).length ≤ 10 := by
  have h1 := (num80 hx).len
  have h2 := (num80 hy).len
  unfold fmtL
  rw [itoa4 ho]
  simp only [List.length_cons, List.length_append, List.length_nil]
  omega
def oOf (a b : UInt8) : Int := (b.toNat : Int) - 48 + (if a = 109 then 4 else 0)
theorem oOf_fmt {o : Int} (ho : 0 ≤ o ∧ o ≤ 7) : oOf (letterN o) (UInt8.ofNat (48 + (o % 4).toNat)) = o := by
  have : o = 0 ∨ o = 1 ∨ o = 2 ∨ o = 3 ∨ o = 4 ∨ o = 5 ∨ o = 6 ∨ o = 7 := by omega
  rcases this with rfl | rfl | rfl | rfl | rfl | rfl | rfl | rfl <;> decide
/-- Two transforms of one text are one. -/
theorem fmt_inj {o x y p u v : Int} (ho : 0 ≤ o ∧ o ≤ 7) (hx : -80 ≤ x ∧ x ≤ 80) (hy : -80 ≤ y ∧ y ≤ 80) (hp : 0 ≤ p ∧ p ≤ 7) (hu : -80 ≤ u ∧ u ≤ 80) (hv : -80 ≤ v ∧ v ≤ 80)
    (h : fmtL o x y = fmtL p u v) : o = p ∧ x = u ∧ y = v := by
  have hw := (fmt_words ho hx hy).symm.trans ((congrArg wordsL h).trans (fmt_words hp hu hv))
  simp only [List.cons.injEq, and_true] at hw
  obtain ⟨⟨h1, h2⟩, h3, h4⟩ := hw
  refine ⟨?_, ?_, ?_⟩
  · rw [← oOf_fmt ho, ← oOf_fmt hp, h1, h2]
  · rw [← (num80 hx).lv, ← (num80 hu).lv, h3]
  · rw [← (num80 hy).lv, ← (num80 hv).lv, h4]

/-! ### bounds -/
theorem dig_bounds {c : UInt8} (h : isDig c = true) : 48 ≤ c.toNat ∧ c.toNat ≤ 57 := by simpa [isDig] using h
theorem lvN_snoc (l : List UInt8) (c : UInt8) : lvN (l ++ [c]) = 10 * lvN l + ((c.toNat : Int) - 48) := by simp [lvN, List.foldl_append]
theorem lvN_bounds : ∀ (n : Nat) (l : List UInt8), l.length = n → (∀ c ∈ l, isDig c = true) → 0 ≤ lvN l ∧ lvN l < 10 ^ n
  | 0, l, h, _ => by
    obtain rfl := List.length_eq_zero_iff.1 h
    exact ⟨by decide, by decide⟩
  | n + 1, l, h, hd => by
    obtain ⟨r, c, rfl⟩ : ∃ r c, l = r ++ [c] := ⟨l.dropLast, l.getLast (by intro e; simp [e] at h), (List.dropLast_concat_getLast _).symm⟩
    simp only [List.length_append, List.length_singleton] at h
    have ih := lvN_bounds n r (by omega) fun x hx => hd x (by simp [hx])
    have hc := dig_bounds (hd c (by simp))
    rw [lvN_snoc]
    have : (10 : Int) ^ (n + 1) = 10 * 10 ^ n := by rw [Int.pow_succ]; omega
    omega
theorem lvN_nine {l : List UInt8} (h : l.length ≤ 9) (hd : ∀ c ∈ l, isDig c = true) : 0 ≤ lvN l ∧ lvN l ≤ 999999999 := by
  obtain ⟨h0, h1⟩ := lvN_bounds l.length l rfl hd
  refine ⟨h0, ?_⟩
  have : (10 : Int) ^ l.length ≤ 10 ^ 9 := by
    have h2 : (10 : Nat) ^ l.length ≤ 10 ^ 9 := Nat.pow_le_pow_right (by omega) h
    have h3 : (((10 : Nat) ^ l.length : Nat) : Int) ≤ ((10 ^ 9 : Nat) : Int) := by exact_mod_cast h2
    rwa [Int.natCast_pow, Int.natCast_pow] at h3
  have h4 : (10 : Int) ^ 9 = 1000000000 := by decide
  omega
theorem lvV_bounds (l : List UInt8) : -999999999 ≤ lvV l ∧ lvV l ≤ 999999999 := by
  unfold lvV
  split
  · rename_i h
    simp only [lvOk, Bool.and_eq_true, decide_eq_true_eq, List.all_eq_true] at h
    have := lvN_nine h.1.2 h.2
    split <;> omega
  · omega
end Go.Proofs.YtldgjocjcbhkmabDoor
