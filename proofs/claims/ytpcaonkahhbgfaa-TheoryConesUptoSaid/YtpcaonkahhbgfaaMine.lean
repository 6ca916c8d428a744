/- Small general facts of this session's own that the printed texts and the walks use. -/
import Derived.Test.YtpcaonkahhbgfaaWWords
import Derived.Test.YtpcaonkahhbgfaaWLast
import Derived.Laws.MakeOwn
namespace Go.Proofs.YtpcaonkahhbgfaaW.PrintMore
theorem mine_here : True := trivial
end Go.Proofs.YtpcaonkahhbgfaaW.PrintMore
namespace Go.Proofs.YtpcaonkahhbgfaaW.PrintWords
open Go.RowKit
set_option linter.unusedVariables false
namespace Kd
section
variable {P : Program} {ops : Array Oper} {Q : Exit → Act → World → Prop} {rest : List Oper} {o : Oper} {a : Act}
variable {α : Type}
/-- make([]T, 0, n): an empty row with room. -/
theorem R_makecap (d : Kd α) {w0 W : World} (base e : Nat) (hgd : o.guard = none) {N : Tmp} (hd : o.dst = some N) (t : TypeId) (x y : Operand) (ho : o.op = .makeSlice t x y) (n : Int) (hx : a.eval x = .int .i64 0) (hy : a.eval y = .int .i64 n)
    (ht : P.underlying t = some (.slice e)) (z : Value) (bytes : Nat) (hinfo : (P.info? e).map (fun i => (i.zero, i.size, i.bytes)) = some (some z, d.sz, bytes)) (hz : z.cells.size = d.sz) (hs0 : 0 < d.sz) (hb0 : 0 < bytes)
    {ok : Nat → Prop} (hfresh : ok W.heap.size) (h0 : 0 ≤ n) (hl : n.toNat * bytes ≤ 281474976710656) (HB : Below base w0 W) (hbase : base ≤ W.heap.size)
    (h : ∀ v1 w1, d.R e w1 base ok v1 [] → Below base w0 w1 → W.grownBy w1 none → (∃ b, v1.ownBlock = some b ∧ W.heap.size ≤ b) → wpList P ops Q rest (a.put o.dst v1) w1) : wpList P ops Q (o :: rest) a W := by
  obtain ⟨m, rfl⟩ := Int.eq_ofNat_of_zero_le h0
  simp only [Int.toNat_natCast] at hl
  obtain ⟨i0, hi, hzz⟩ := Option.map_eq_some_iff.1 hinfo
  simp only [Prod.mk.injEq] at hzz
  obtain ⟨hz0, hz1, hz2⟩ := hzz
  have hm : m ≤ 281474976710656 := Nat.le_trans (Nat.le_mul_of_pos_right _ hb0) hl
  obtain ⟨w', hr, hown, hg⟩ := run_make_own (P := P) W base t e i0 z d.sz ht hi hz0 hz1 .i64 .i64 m (by rw [hz2, Nat.mul_comm]; exact hl) (by unfold maxLen; omega) hbase
  refine event_run hgd (v := .slice (some ⟨W.heap.size, 0, none⟩) 0 m) (w1 := w') ?_ (h _ _ ⟨fun k hk => ?_, [], hown, ?_⟩ (HB.grown hg hbase (by simp)) hg ⟨W.heap.size, by simp [Value.ownBlock], Nat.le_refl _⟩)
  · simp [execOp, ho, hx, hy, hr]
  · have : W.heap.size = k := by simpa [Value.ownBlock] using hk
    subst this
    exact hfresh
  · exact Reps.none _ _
end
theorem _root_.Go.Proofs.YtpcaonkahhbgfaaW.PrintWords.R_tightI {kd : IntKind} {W : World} {e base : Nat} {ok : Nat → Prop} {v : Value} {xs : List Int} (h : (Kd.int kd).R e W base ok v xs) : (Kd.int kd).R e W base (fun k => some k = v.ownBlock ∧ ok k) v xs := ⟨fun k hk => ⟨hk.symm, h.1 k hk⟩, h.2⟩
/-- a block whose cells are whole numbers, read as a row -/
theorem C_blk {k : IntKind} {W : World} {g n : Nat} {e : TypeId} {fr : Nat × Nat} {cs : Array Value} {l : List Int} (h : W.heap[g]? = some (.cells cs e fr)) (hcs : cs = (nums k l).toArray) (hn : l.length = n) (hm : n ≤ 9223372036854775807) :
    (Kd.int k).C W (some ⟨g, 0, none⟩) n l := by
  subst hcs
  refine C_of_reads (enc := Value.int k) (d := (0 : Int)) (h1 := fun _ => rfl) ?_
  refine ⟨hn, hm, fun h0 => ⟨_, rfl, fun j hj => ?_⟩⟩
  rw [add_plain, cell_of_row W g j _ e fr h]
  simp [nums, List.getElem?_eq_getElem (show j < l.length by omega)]
end Kd
end Go.Proofs.YtpcaonkahhbgfaaW.PrintWords
