/- Two rows of the set of cells compared, as the machine does it. -/
import Derived.Test.YtldgjocjcbhkmaaWlk
import Derived.ChangeKeysEq
import Derived.Deep.MidRow
import Derived.BigQuiet
namespace Go.Proofs.Ytldgjocjcbhkmaa

def rowV (g : Grid) (i : Nat) : List Value := (List.range 80).map fun k => .bool (g i k)
theorem rowV_get (g : Grid) (i k : Nat) (hk : k < 80) : (rowV g i)[k]? = some (.bool (g i k)) := by simp [rowV, hk]
theorem eqItems_rows (d : Nat) (g : Grid) (i j : Nat) (w : World) : ∀ is : List Nat, (∀ k ∈ is, k < 80) →
    (Op.eqItems (d + 1) 4 1 (rowV g i).toArray (rowV g j).toArray is).run Try.prog w = .ok (is.all fun k => g i k == g j k) w
  | [], _ => by simp [Op.eqItems]
  | k :: is, h => by
    have hk := h k (by simp)
    have ih := eqItems_rows d g i j w is fun k' hk' => h k' (by simp [hk'])
    have hp : Try.prog.plainKey 4 = true := by kernel_rfl
    have p1 : (part 4 (rowV g i).toArray (k * 1)).run Try.prog w = .ok (.bool (g i k)) w := run_part_plain w hp (by simpa using rowV_get g i k hk)
    have p2 : (part 4 (rowV g j).toArray (k * 1)).run Try.prog w = .ok (.bool (g j k)) w := run_part_plain w hp (by simpa using rowV_get g j k hk)
    have p3 : (Op.equalIn (d + 1) 4 (.bool (g i k)) (.bool (g j k))).run Try.prog w = .ok (g i k == g j k) w := by
      simp [Op.equalIn, Sem.run_bind, run_underlying Try.underlying4]
    simp only [Op.eqItems, Sem.run_bind, p1, p2, p3, Result.andThen_ok, List.all_cons]
    cases hq : (g i k == g j k)
    · simp
    · simpa using ih
theorem bool_i : ∃ ii, Try.prog.info? 4 = some ii := info_of_underlying Try.underlying4
theorem eq_rows (g : Grid) (i j : Nat) (w : World) : (Op.equal 101 (.agg (rowV g i).toArray) (.agg (rowV g j).toArray)).run Try.prog w = .ok (rowEq g i j) w := by
  obtain ⟨ii, hii⟩ := bool_i
  have h1 : Try.prog.cellsOf 4 = 1 := by kernel_rfl
  have h := run_equalIn_array (P := Try.prog) w 9999 (rowV g i).toArray (rowV g j).toArray Try.underlying101 hii
  rw [h1] at h
  exact h.trans (eqItems_rows 9998 g i j w (List.range 80) fun k hk => List.mem_range.1 hk)
theorem row_range {w : World} {b t : Nat} {g : Grid} (h : w.rowIs b t 6400 (gv g)) {i : Nat} (hi : i < 80) : w.rangeAt b (i * 80) (rowV g i) := fun k v hk => by
  have hk2 : k < 80 := by have := (List.getElem?_eq_some_iff.1 hk).1; simpa [rowV] using this
  rw [rowV_get g i k hk2] at hk
  rw [h.cell (i := i * 80 + k) (by omega), gv_at g hk2, ← hk]
theorem eq_rows' (g : Grid) (i j : Nat) (w : World) : (Op.equalIn 10000 101 (.agg (rowV g i).toArray) (.agg (rowV g j).toArray)).run Try.prog w = .ok (rowEq g i j) w := eq_rows g i j w
/-- A whole row loaded, in a walk that draws its order. -/
theorem quiet_load_row {P : Program} {C : World → Prop} {a : Act} {o : Oper} {K : Act → Prop} (ty : TypeId) (x : Operand) (ho : o.op = .load ty x)
    (b off : Nat) (hx : a.eval x = .pointer (some ⟨b, off, none⟩)) (cs : List Value) (d : TypeDesc) (hc : ∀ w, C w → w.rangeAt b off cs)
    (hu : P.underlying ty = some d) (hd : d.isRow = true) (hi : (P.info? ty).map (·.size) = some cs.length)
    (hk : K (a.put o.dst (.agg cs.toArray))) : o.quiet P a C K :=
  ⟨_, fun w hw => by
    unfold Oper.quietAt execOp
    simp only [ho, hx, Instr.loadAt, Instr.sureAddr, Sem.run_bind, Sem.run_pure, Result.andThen_ok, run_loadVar_mid w b off ty cs d (hc w hw) hu hd hi]
    exact ⟨rfl, rfl⟩, hk⟩
/-- Two whole rows compared, in a walk that draws its order. -/
theorem quiet_eql_row {P : Program} {C : World → Prop} {a : Act} {o : Oper} {K : Act → Prop} (t u : TypeId) (x y : Operand) (ho : o.op = .binOp .eql t x y u)
    (vx vy : Array Value) (hx : a.eval x = .agg vx) (hy : a.eval y = .agg vy) (r : Bool) (hg : P.eqGuardType P.depth t = false) (he : ∀ w, (Op.equalIn 10000 t (.agg vx) (.agg vy)).run P w = .ok r w)
    (hk : K (a.put o.dst (.bool r))) : o.quiet P a C K :=
  ⟨_, fun w hw => by
    unfold Oper.quietAt execOp
    simp only [ho, hx, hy, Sem.run_bind, Sem.run_pure, Result.andThen_ok, run_eqGuard_agg w .eql t _ _ vx vy hg, run_eql_struct, he]
    exact ⟨rfl, rfl⟩, hk⟩
end Go.Proofs.Ytldgjocjcbhkmaa
