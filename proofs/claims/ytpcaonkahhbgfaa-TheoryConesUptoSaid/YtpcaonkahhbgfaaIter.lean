/- A range over a string beside other memory: the place of the iteration is one object, whatever else has been made. -/
import Derived.Test.YtpcaonkahhbgfaaWMore
import Derived.Test.YtpcaonkahhbgfaaWNEv
import Derived.Laws.RangeString
import Derived.Laws.RangeAny
import Derived.Lib.Hide
namespace Go.Proofs.YtpcaonkahhbgfaaW.PrintWords
open Go.RowKit
set_option linter.unusedVariables false
/-- the object g, put anew -/
def setIter (W : World) (g : Nat) (o : Obj) : World := { W with heap := W.heap.setIfInBounds g o }
section
variable {P : Program} {W : World} {g : Nat}
theorem setIter_same (h : g < W.heap.size) (o : Obj) : (setIter W g o).heap[g]? = some o := by
  simp [setIter, h]
theorem setIter_other {k : Nat} (h : k ≠ g) (o : Obj) : (setIter W g o).heap[k]? = W.heap[k]? := by
  simp only [setIter]
  exact Array.getElem?_setIfInBounds_ne (fun e => h e.symm)
theorem setIter_size (o : Obj) : (setIter W g o).heap.size = W.heap.size := by simp [setIter]
theorem setIter_below {B : Nat} {w : World} (h : Below B w W) (hg : B ≤ g) (o : Obj) : Below B w (setIter W g o) :=
  ⟨h.os, h.tape, h.output, by rw [setIter_size]; exact h.size, fun i hi => (setIter_other (by omega) o).trans (h.block i hi)⟩
theorem next_any (s : ByteArray) (pos : Nat) (ty : TypeId) (hg : W.heap[g]? = some (.stringIter s pos)) (h : pos < s.size) :
    (Instr.next (.pointer (some ⟨g, 0, none⟩)) true ty).run P W = .ok (.tuple #[.bool true, .int .i64 pos, .int .i32 (Utf8.decode s pos).1]) (setIter W g (.stringIter s (pos + (Utf8.decode s pos).2))) := by
  simp only [Instr.next, getObj, setObj, Sem.run_bind, Sem.run, hg, Result.andThen, h, if_true]
  simp [goInt, setIter]
theorem bt_get (s : ByteArray) (pos : Nat) (h : pos < s.size) : bt s pos = ((s[pos]'h).toNat : Int) := by
  unfold bt
  rw [dif_pos (by simpa using h)]
  rfl
/-- a byte below 128 is its own sign -/
theorem next_low (s : ByteArray) (pos : Nat) (ty : TypeId) (hg : W.heap[g]? = some (.stringIter s pos)) (h : pos < s.size) (hl : bt s pos < 128) :
    (Instr.next (.pointer (some ⟨g, 0, none⟩)) true ty).run P W = .ok (.tuple #[.bool true, .int .i64 pos, .int .i32 (bt s pos)]) (setIter W g (.stringIter s (pos + 1))) := by
  rw [next_any s pos ty hg h, decode_ascii s pos h (by rw [bt_get s pos h] at hl; omega), bt_get s pos h]
/-- another one begins a sign from 128 on -/
theorem next_high (s : ByteArray) (pos : Nat) (hg : W.heap[g]? = some (.stringIter s pos)) (h : pos < s.size) (hl : ¬ bt s pos < 128) :
    ∃ (c : Int) (q : Nat), 128 ≤ c ∧ c ≤ 2147483647 ∧ pos < q ∧ ∀ ty, (Instr.next (.pointer (some ⟨g, 0, none⟩)) true ty).run P W = .ok (.tuple #[.bool true, .int .i64 pos, .int .i32 c]) (setIter W g (.stringIter s q)) := by
  have h1 := decode_high s pos h (by rw [bt_get s pos h] at hl; omega)
  have h2 := decode_le s pos
  exact ⟨_, _, by omega, by omega, by omega, fun ty => next_any s pos ty hg h⟩
theorem next_end (s : ByteArray) (pos : Nat) (ty : TypeId) (hg : W.heap[g]? = some (.stringIter s pos)) (h : ¬ pos < s.size) :
    (Instr.next (.pointer (some ⟨g, 0, none⟩)) true ty).run P W = .ok (.tuple #[.bool false]) W := by
  simp [Instr.next, getObj, Sem.run, hg, h]
theorem Kd.R_iter {α : Type} {d : Kd α} {e base : Nat} {ok : Nat → Prop} {v : Value} {xs : List α} (h : d.R e W base ok v xs) (o : Obj) (hok : ∀ k, ok k → k ≠ g) : d.R e (setIter W g o) base ok v xs :=
  Kd.R_step h (fun k hk _ => setIter_other (hok k hk) o)
end
end Go.Proofs.YtpcaonkahhbgfaaW.PrintWords
