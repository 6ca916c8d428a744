/- The lexer's scanner: a run of good bytes from a place on. -/
import Derived.Test.YtmjneidcdaapdaaPx0
import Derived.Test.YtmjneidcdaapdaaShelf
namespace Go.Proofs.Ytmjneidcdaapdaa.P
open Go.RowKit Go.Proofs.YtmjneidcdaapdaaW.PrintWords Go.Proofs.YtmjneidcdaapdaaW.PrintLast Go.Proofs.YtmjneidcdaapdaaW.PrintMore
set_option linter.unusedVariables false
set_option linter.unusedSimpArgs false

/-- What a byte may do. -/
def clsI (c : Int) : Int := if (c = 9 ∨ c = 10) ∨ (c = 13 ∨ c = 32) then 1 else if 97 ≤ c ∧ c ≤ 122 then 2 else if 65 ≤ c ∧ c ≤ 90 then 3 else if 48 ≤ c ∧ c ≤ 57 then 4 else if c = 95 then 5 else 0
def gD (k : Int) : Bool := k == 4
def gN (k : Int) : Bool := k == 2 || (k == 4 || k == 5)
def gV (k : Int) : Bool := gN k || k == 3
theorem cls_bd (c : Int) : 0 ≤ clsI c ∧ clsI c ≤ 5 := by unfold clsI; repeat (first | omega | split)
theorem bt_bd (s : ByteArray) (i : Int) : 0 ≤ bt s i ∧ bt s i ≤ 255 := by
  unfold bt
  split
  · have := (s[i.toNat]'(by assumption)).toNat_lt; omega
  · omega
/-- Good bytes are low. -/
def LowG (G : Int → Bool) : Prop := ∀ c, G (clsI c) = true → c < 128
theorem lowD : LowG gD := by
  intro c h
  unfold gD clsI at h
  repeat (first | omega | (simp at h; done) | split at h)
theorem lowV : LowG gV := by
  intro c h
  unfold gV gN clsI at h
  repeat (first | omega | (simp at h; done) | split at h)
theorem lowN : LowG gN := fun c h => lowV c (by unfold gV; rw [h]; rfl)
theorem ret_i {a b : Int} (h : a = b) : Ending.returned (.int .i64 a) = .returned (.int .i64 b) := by rw [h]
theorem classOf_any (c : Int) (w : World) : Calls Try.prog 97 #[.int .u8 c] w fun e w' => e = .returned (.int .i64 (clsI c)) ∧ w = w' := by
  have fin : ∀ k, clsI c = k → Ending.returned (.int .i64 k) = .returned (.int .i64 (clsI c)) := fun k h => by rw [h]
  by_cases h9 : c = 9
  · subst h9
    go_enter Try.func97, Try.ntmps97
    go_wp2_with fail
    go_ret
    exact ⟨rfl, rfl⟩
  by_cases h10 : c = 10
  · subst h10
    go_enter Try.func97, Try.ntmps97
    go_wp2_with fail
    go_ret
    exact ⟨rfl, rfl⟩
  by_cases h13 : c = 13
  · subst h13
    go_enter Try.func97, Try.ntmps97
    go_wp2_with fail
    go_ret
    exact ⟨rfl, rfl⟩
  by_cases h32 : c = 32
  · subst h32
    go_enter Try.func97, Try.ntmps97
    go_wp2_with fail
    go_ret
    exact ⟨rfl, rfl⟩
  have b9 : (c == 9) = false := by simpa using h9
  have b10 : (c == 10) = false := by simpa using h10
  have b13 : (c == 13) = false := by simpa using h13
  have b32 : (c == 32) = false := by simpa using h32
  have key : ∀ k, ((97 ≤ c ∧ c ≤ 122) ∧ k = 2) ∨ (¬ (97 ≤ c ∧ c ≤ 122) ∧ (65 ≤ c ∧ c ≤ 90) ∧ k = 3) ∨ (¬ (97 ≤ c ∧ c ≤ 122) ∧ ¬ (65 ≤ c ∧ c ≤ 90) ∧ (48 ≤ c ∧ c ≤ 57) ∧ k = 4) ∨ (c = 95 ∧ k = 5) ∨ (¬ (97 ≤ c ∧ c ≤ 122) ∧ ¬ (65 ≤ c ∧ c ≤ 90) ∧ ¬ (48 ≤ c ∧ c ≤ 57) ∧ c ≠ 95 ∧ k = 0) → clsI c = k := by
    intro k h
    unfold clsI
    rw [if_neg (by omega)]
    rcases h with ⟨h, rfl⟩ | ⟨h1, h, rfl⟩ | ⟨h1, h2, h, rfl⟩ | ⟨rfl, rfl⟩ | ⟨h1, h2, h3, h4, rfl⟩
    · rw [if_pos h]
    · rw [if_neg h1, if_pos h]
    · rw [if_neg h1, if_neg h2, if_pos h]
    · rfl
    · rw [if_neg h1, if_neg h2, if_neg h3, if_neg h4]
  have KEY := Aside0.mk key
  have FIN := Aside0.mk fin
  clear key fin h9 h10 h13 h32
  have cut : (c ≤ 47) ∨ (48 ≤ c ∧ c ≤ 57) ∨ (58 ≤ c ∧ c ≤ 64) ∨ (65 ≤ c ∧ c ≤ 90) ∨ (91 ≤ c ∧ c ≤ 94) ∨ (95 ≤ c ∧ c ≤ 95) ∨ (96 ≤ c ∧ c ≤ 96) ∨ (97 ≤ c ∧ c ≤ 122) ∨ (123 ≤ c) := by omega
  rcases cut with h | h | h | h | h | h | h | h | h
  · have d0 : decide (97 ≤ c) = false := decide_eq_false (by omega)
    have d1 : decide (c ≤ 122) = true := decide_eq_true (by omega)
    have d2 : decide (65 ≤ c) = false := decide_eq_false (by omega)
    have d3 : decide (c ≤ 90) = true := decide_eq_true (by omega)
    have d4 : decide (48 ≤ c) = false := decide_eq_false (by omega)
    have d5 : decide (c ≤ 57) = true := decide_eq_true (by omega)
    have d6 : (c == 95) = false := beq_eq_false_iff_ne.2 (by omega)
    have HF := Aside0.mk (FIN.out 0 (KEY.out 0 (by omega)))
    clear h FIN KEY
    go_enter Try.func97, Try.ntmps97
    go_wp2_with fail
    go_ret
    exact ⟨HF.out, rfl⟩
  · have d0 : decide (97 ≤ c) = false := decide_eq_false (by omega)
    have d1 : decide (c ≤ 122) = true := decide_eq_true (by omega)
    have d2 : decide (65 ≤ c) = false := decide_eq_false (by omega)
    have d3 : decide (c ≤ 90) = true := decide_eq_true (by omega)
    have d4 : decide (48 ≤ c) = true := decide_eq_true (by omega)
    have d5 : decide (c ≤ 57) = true := decide_eq_true (by omega)
    have d6 : (c == 95) = false := beq_eq_false_iff_ne.2 (by omega)
    have HF := Aside0.mk (FIN.out 4 (KEY.out 4 (by omega)))
    clear h FIN KEY
    go_enter Try.func97, Try.ntmps97
    go_wp2_with fail
    go_ret
    exact ⟨HF.out, rfl⟩
  · have d0 : decide (97 ≤ c) = false := decide_eq_false (by omega)
    have d1 : decide (c ≤ 122) = true := decide_eq_true (by omega)
    have d2 : decide (65 ≤ c) = false := decide_eq_false (by omega)
    have d3 : decide (c ≤ 90) = true := decide_eq_true (by omega)
    have d4 : decide (48 ≤ c) = true := decide_eq_true (by omega)
    have d5 : decide (c ≤ 57) = false := decide_eq_false (by omega)
    have d6 : (c == 95) = false := beq_eq_false_iff_ne.2 (by omega)
    have HF := Aside0.mk (FIN.out 0 (KEY.out 0 (by omega)))
    clear h FIN KEY
    go_enter Try.func97, Try.ntmps97
    go_wp2_with fail
    go_ret
    exact ⟨HF.out, rfl⟩
  · have d0 : decide (97 ≤ c) = false := decide_eq_false (by omega)
    have d1 : decide (c ≤ 122) = true := decide_eq_true (by omega)
    have d2 : decide (65 ≤ c) = true := decide_eq_true (by omega)
    have d3 : decide (c ≤ 90) = true := decide_eq_true (by omega)
    have d4 : decide (48 ≤ c) = true := decide_eq_true (by omega)
    have d5 : decide (c ≤ 57) = false := decide_eq_false (by omega)
    have d6 : (c == 95) = false := beq_eq_false_iff_ne.2 (by omega)
    have HF := Aside0.mk (FIN.out 3 (KEY.out 3 (by omega)))
    clear h FIN KEY
    go_enter Try.func97, Try.ntmps97
    go_wp2_with fail
    go_ret
    exact ⟨HF.out, rfl⟩
  · have d0 : decide (97 ≤ c) = false := decide_eq_false (by omega)
    have d1 : decide (c ≤ 122) = true := decide_eq_true (by omega)
    have d2 : decide (65 ≤ c) = true := decide_eq_true (by omega)
    have d3 : decide (c ≤ 90) = false := decide_eq_false (by omega)
    have d4 : decide (48 ≤ c) = true := decide_eq_true (by omega)
    have d5 : decide (c ≤ 57) = false := decide_eq_false (by omega)
    have d6 : (c == 95) = false := beq_eq_false_iff_ne.2 (by omega)
    have HF := Aside0.mk (FIN.out 0 (KEY.out 0 (by omega)))
    clear h FIN KEY
    go_enter Try.func97, Try.ntmps97
    go_wp2_with fail
    go_ret
    exact ⟨HF.out, rfl⟩
  · have d0 : decide (97 ≤ c) = false := decide_eq_false (by omega)
    have d1 : decide (c ≤ 122) = true := decide_eq_true (by omega)
    have d2 : decide (65 ≤ c) = true := decide_eq_true (by omega)
    have d3 : decide (c ≤ 90) = false := decide_eq_false (by omega)
    have d4 : decide (48 ≤ c) = true := decide_eq_true (by omega)
    have d5 : decide (c ≤ 57) = false := decide_eq_false (by omega)
    have d6 : (c == 95) = true := beq_iff_eq.2 (by omega)
    have HF := Aside0.mk (FIN.out 5 (KEY.out 5 (by omega)))
    clear h FIN KEY
    go_enter Try.func97, Try.ntmps97
    go_wp2_with fail
    go_ret
    exact ⟨HF.out, rfl⟩
  · have d0 : decide (97 ≤ c) = false := decide_eq_false (by omega)
    have d1 : decide (c ≤ 122) = true := decide_eq_true (by omega)
    have d2 : decide (65 ≤ c) = true := decide_eq_true (by omega)
    have d3 : decide (c ≤ 90) = false := decide_eq_false (by omega)
    have d4 : decide (48 ≤ c) = true := decide_eq_true (by omega)
    have d5 : decide (c ≤ 57) = false := decide_eq_false (by omega)
    have d6 : (c == 95) = false := beq_eq_false_iff_ne.2 (by omega)
    have HF := Aside0.mk (FIN.out 0 (KEY.out 0 (by omega)))
    clear h FIN KEY
    go_enter Try.func97, Try.ntmps97
    go_wp2_with fail
    go_ret
    exact ⟨HF.out, rfl⟩
  · have d0 : decide (97 ≤ c) = true := decide_eq_true (by omega)
    have d1 : decide (c ≤ 122) = true := decide_eq_true (by omega)
    have d2 : decide (65 ≤ c) = true := decide_eq_true (by omega)
    have d3 : decide (c ≤ 90) = false := decide_eq_false (by omega)
    have d4 : decide (48 ≤ c) = true := decide_eq_true (by omega)
    have d5 : decide (c ≤ 57) = false := decide_eq_false (by omega)
    have d6 : (c == 95) = false := beq_eq_false_iff_ne.2 (by omega)
    have HF := Aside0.mk (FIN.out 2 (KEY.out 2 (by omega)))
    clear h FIN KEY
    go_enter Try.func97, Try.ntmps97
    go_wp2_with fail
    go_ret
    exact ⟨HF.out, rfl⟩
  · have d0 : decide (97 ≤ c) = true := decide_eq_true (by omega)
    have d1 : decide (c ≤ 122) = false := decide_eq_false (by omega)
    have d2 : decide (65 ≤ c) = true := decide_eq_true (by omega)
    have d3 : decide (c ≤ 90) = false := decide_eq_false (by omega)
    have d4 : decide (48 ≤ c) = true := decide_eq_true (by omega)
    have d5 : decide (c ≤ 57) = false := decide_eq_false (by omega)
    have d6 : (c == 95) = false := beq_eq_false_iff_ne.2 (by omega)
    have HF := Aside0.mk (FIN.out 0 (KEY.out 0 (by omega)))
    clear h FIN KEY
    go_enter Try.func97, Try.ntmps97
    go_wp2_with fail
    go_ret
    exact ⟨HF.out, rfl⟩
def runN (s : ByteArray) (G : Int → Bool) : Nat → Nat → Nat
  | 0, p => p
  | n + 1, p => if G (clsI (bt s p)) = true then runN s G n (p + 1) else p
def runI (s : ByteArray) (G : Int → Bool) (p : Nat) : Nat := runN s G (s.size - p) p
theorem runI_end {s : ByteArray} {G : Int → Bool} {p : Nat} (h : s.size ≤ p) : runI s G p = p := by
  unfold runI
  rw [show s.size - p = 0 by omega]
  rfl
theorem runI_no {s : ByteArray} {G : Int → Bool} {p : Nat} (h : G (clsI (bt s p)) = false) : runI s G p = p := by
  unfold runI
  cases s.size - p with
  | zero => rfl
  | succ n => simp only [runN, h]; rfl
theorem runI_yes {s : ByteArray} {G : Int → Bool} {p : Nat} (hl : p < s.size) (h : G (clsI (bt s p)) = true) : runI s G p = runI s G (p + 1) := by
  unfold runI
  obtain ⟨n, hn⟩ : ∃ n, s.size - p = n + 1 := ⟨s.size - p - 1, by omega⟩
  rw [hn, show s.size - (p + 1) = n by omega]
  simp only [runN, h]
  rfl
theorem bt_cut (s : ByteArray) (p j : Nat) (h : p + j < s.size) : bt (s.extract p s.size) j = bt s ((p + j : Nat) : Int) := by
  rw [bt_get _ j (by simp; omega), bt_get s (p + j) h]
  simp [ByteArray.getElem_extract]
def marksL : List ByteArray := ([(⟨#[45, 62]⟩ : ByteArray), (⟨#[61, 62]⟩ : ByteArray), (⟨#[126, 62]⟩ : ByteArray), (⟨#[33, 61]⟩ : ByteArray), (⟨#[60, 61]⟩ : ByteArray), (⟨#[62, 61]⟩ : ByteArray), (⟨#[61, 61]⟩ : ByteArray), (⟨#[60, 62]⟩ : ByteArray), (⟨#[60]⟩ : ByteArray), (⟨#[62]⟩ : ByteArray), (⟨#[40]⟩ : ByteArray), (⟨#[41]⟩ : ByteArray), (⟨#[123]⟩ : ByteArray), (⟨#[125]⟩ : ByteArray), (⟨#[44]⟩ : ByteArray), (⟨#[46]⟩ : ByteArray), (⟨#[58]⟩ : ByteArray), (⟨#[61]⟩ : ByteArray), (⟨#[45]⟩ : ByteArray), (⟨#[43]⟩ : ByteArray), (⟨#[42]⟩ : ByteArray)] : List ByteArray)
theorem marks_any (w : World) :
    Calls Try.prog 130 #[] w fun e w' => ∃ v0_ : Value, e = .returned (v0_) ∧ Kd.R Kd.string 9 w' w.heap.size (fun _ => True) v0_ marksL ∧ Below w.heap.size w w' := by
  have HB := Aside0.mk (Below.refl w.heap.size w)
  obtain ⟨y108, hy108⟩ : ∃ y_ : List ByteArray, y_ = ([(⟨#[45, 62]⟩ : ByteArray), (⟨#[61, 62]⟩ : ByteArray), (⟨#[126, 62]⟩ : ByteArray), (⟨#[33, 61]⟩ : ByteArray), (⟨#[60, 61]⟩ : ByteArray), (⟨#[62, 61]⟩ : ByteArray), (⟨#[61, 61]⟩ : ByteArray), (⟨#[60, 62]⟩ : ByteArray), (⟨#[60]⟩ : ByteArray), (⟨#[62]⟩ : ByteArray), (⟨#[40]⟩ : ByteArray), (⟨#[41]⟩ : ByteArray), (⟨#[123]⟩ : ByteArray), (⟨#[125]⟩ : ByteArray), (⟨#[44]⟩ : ByteArray), (⟨#[46]⟩ : ByteArray), (⟨#[58]⟩ : ByteArray), (⟨#[61]⟩ : ByteArray), (⟨#[45]⟩ : ByteArray), (⟨#[43]⟩ : ByteArray), (⟨#[42]⟩ : ByteArray)] : List ByteArray) := ⟨_, rfl⟩
  have Ny108 := Aside0.mk hy108
  have e0 : marksL = y108 := hy108.symm
  rw [e0]
  clear hy108 e0
  go_enter Try.func130, Try.ntmps130
  go_wp2_with (first | ((with_reducible refine gate_dst (N := 1) rfl ?_); refine Kd.R_lit Kd.string _ 9 ?hg (N := 1) ?hd (xs := ([(⟨#[45, 62]⟩ : ByteArray), (⟨#[61, 62]⟩ : ByteArray), (⟨#[126, 62]⟩ : ByteArray), (⟨#[33, 61]⟩ : ByteArray), (⟨#[60, 61]⟩ : ByteArray), (⟨#[62, 61]⟩ : ByteArray), (⟨#[61, 61]⟩ : ByteArray), (⟨#[60, 62]⟩ : ByteArray), (⟨#[60]⟩ : ByteArray), (⟨#[62]⟩ : ByteArray), (⟨#[40]⟩ : ByteArray), (⟨#[41]⟩ : ByteArray), (⟨#[123]⟩ : ByteArray), (⟨#[125]⟩ : ByteArray), (⟨#[44]⟩ : ByteArray), (⟨#[46]⟩ : ByteArray), (⟨#[58]⟩ : ByteArray), (⟨#[61]⟩ : ByteArray), (⟨#[45]⟩ : ByteArray), (⟨#[43]⟩ : ByteArray), (⟨#[42]⟩ : ByteArray)] : List ByteArray)) (inner := [.string (⟨#[45, 62]⟩ : ByteArray), .string (⟨#[61, 62]⟩ : ByteArray), .string (⟨#[126, 62]⟩ : ByteArray), .string (⟨#[33, 61]⟩ : ByteArray), .string (⟨#[60, 61]⟩ : ByteArray), .string (⟨#[62, 61]⟩ : ByteArray), .string (⟨#[61, 61]⟩ : ByteArray), .string (⟨#[60, 62]⟩ : ByteArray), .string (⟨#[60]⟩ : ByteArray), .string (⟨#[62]⟩ : ByteArray), .string (⟨#[40]⟩ : ByteArray), .string (⟨#[41]⟩ : ByteArray), .string (⟨#[123]⟩ : ByteArray), .string (⟨#[125]⟩ : ByteArray), .string (⟨#[44]⟩ : ByteArray), .string (⟨#[46]⟩ : ByteArray), .string (⟨#[58]⟩ : ByteArray), .string (⟨#[61]⟩ : ByteArray), .string (⟨#[45]⟩ : ByteArray), .string (⟨#[43]⟩ : ByteArray), .string (⟨#[42]⟩ : ByteArray)]) (ok := fun _ => True) (okp := fun _ => True) ?hr ?hp (fun _ hk => hk) trivial (Below.refl _ _) (Nat.le_refl _) (by simp) ?_; (case hd => rfl); (case hg => rfl); (case hr => first | (go_simp; done) | (go_simp; rfl)); (case hp => exact (Reps.one (show Kd.M Kd.string _ _ _ (⟨#[45, 62]⟩ : ByteArray) [.string (⟨#[45, 62]⟩ : ByteArray)] from rfl) (Reps.one (show Kd.M Kd.string _ _ _ (⟨#[61, 62]⟩ : ByteArray) [.string (⟨#[61, 62]⟩ : ByteArray)] from rfl) (Reps.one (show Kd.M Kd.string _ _ _ (⟨#[126, 62]⟩ : ByteArray) [.string (⟨#[126, 62]⟩ : ByteArray)] from rfl) (Reps.one (show Kd.M Kd.string _ _ _ (⟨#[33, 61]⟩ : ByteArray) [.string (⟨#[33, 61]⟩ : ByteArray)] from rfl) (Reps.one (show Kd.M Kd.string _ _ _ (⟨#[60, 61]⟩ : ByteArray) [.string (⟨#[60, 61]⟩ : ByteArray)] from rfl) (Reps.one (show Kd.M Kd.string _ _ _ (⟨#[62, 61]⟩ : ByteArray) [.string (⟨#[62, 61]⟩ : ByteArray)] from rfl) (Reps.one (show Kd.M Kd.string _ _ _ (⟨#[61, 61]⟩ : ByteArray) [.string (⟨#[61, 61]⟩ : ByteArray)] from rfl) (Reps.one (show Kd.M Kd.string _ _ _ (⟨#[60, 62]⟩ : ByteArray) [.string (⟨#[60, 62]⟩ : ByteArray)] from rfl) (Reps.one (show Kd.M Kd.string _ _ _ (⟨#[60]⟩ : ByteArray) [.string (⟨#[60]⟩ : ByteArray)] from rfl) (Reps.one (show Kd.M Kd.string _ _ _ (⟨#[62]⟩ : ByteArray) [.string (⟨#[62]⟩ : ByteArray)] from rfl) (Reps.one (show Kd.M Kd.string _ _ _ (⟨#[40]⟩ : ByteArray) [.string (⟨#[40]⟩ : ByteArray)] from rfl) (Reps.one (show Kd.M Kd.string _ _ _ (⟨#[41]⟩ : ByteArray) [.string (⟨#[41]⟩ : ByteArray)] from rfl) (Reps.one (show Kd.M Kd.string _ _ _ (⟨#[123]⟩ : ByteArray) [.string (⟨#[123]⟩ : ByteArray)] from rfl) (Reps.one (show Kd.M Kd.string _ _ _ (⟨#[125]⟩ : ByteArray) [.string (⟨#[125]⟩ : ByteArray)] from rfl) (Reps.one (show Kd.M Kd.string _ _ _ (⟨#[44]⟩ : ByteArray) [.string (⟨#[44]⟩ : ByteArray)] from rfl) (Reps.one (show Kd.M Kd.string _ _ _ (⟨#[46]⟩ : ByteArray) [.string (⟨#[46]⟩ : ByteArray)] from rfl) (Reps.one (show Kd.M Kd.string _ _ _ (⟨#[58]⟩ : ByteArray) [.string (⟨#[58]⟩ : ByteArray)] from rfl) (Reps.one (show Kd.M Kd.string _ _ _ (⟨#[61]⟩ : ByteArray) [.string (⟨#[61]⟩ : ByteArray)] from rfl) (Reps.one (show Kd.M Kd.string _ _ _ (⟨#[45]⟩ : ByteArray) [.string (⟨#[45]⟩ : ByteArray)] from rfl) (Reps.one (show Kd.M Kd.string _ _ _ (⟨#[43]⟩ : ByteArray) [.string (⟨#[43]⟩ : ByteArray)] from rfl) (Reps.one (show Kd.M Kd.string _ _ _ (⟨#[42]⟩ : ByteArray) [.string (⟨#[42]⟩ : ByteArray)] from rfl) (Reps.none _ _))))))))))))))))))))))); intro v109 w1 ho2 hb hg_ hnew_; clear hg_ hnew_; (first | rw [← Ny108.out] at ho2 | (simp only [Int.reduceToNat] at ho2; rw [← Ny108.out] at ho2)); have n0_ := Aside0.mk (Kd.R_lower ho2 (below_size (by repeat (first | (with_reducible first | exact HB.out | apply below_alloc | apply pw_below_drewN | apply below_drew1) | exact HB.out)))); have n1_ := Aside0.mk (below_step (by repeat (first | (with_reducible first | exact HB.out | apply below_alloc | apply pw_below_drewN | apply below_drew1) | exact HB.out)) hb); clear HB; have HO110 := n0_; have HB := n1_; clear n0_ n1_; clear hb ho2))
  go_ret
  exact ⟨_, rfl, HO110.out, HB.out⟩
def dOk (s : ByteArray) (p i : Nat) : Bool := if i = 4 ∨ i = 7 then bt s ((p + i : Nat) : Int) == 45 else clsI (bt s ((p + i : Nat) : Int)) == 4
def dFrom (s : ByteArray) (p : Nat) : Nat → Nat → Bool
  | 0, _ => true
  | n + 1, i => dOk s p i && dFrom s p n (i + 1)
/-- Do ten bytes have a date's form? -/
def dateI (s : ByteArray) (p : Nat) : Bool := decide (p + 10 ≤ s.size) && dFrom s p 10 0
theorem dated_any (s : ByteArray) (p : Nat) (w : World) (hp : p ≤ s.size) (hs : s.size ≤ 65536) :
    Calls Try.prog 127 #[.string (s.extract p s.size)] w fun e w' => e = .returned (.bool (dateI s p)) ∧ w = w' := by
  obtain ⟨t, ht⟩ : ∃ t, t = s.extract p s.size := ⟨_, rfl⟩
  have hts : t.size = s.size - p := by rw [ht]; simp
  have htb : ∀ j : Nat, p + j < s.size → bt t j = bt s ((p + j : Nat) : Int) := fun j hj => by rw [ht]; exact bt_cut s p j hj
  rw [← ht]
  have HTB := Aside0.mk htb
  have HTS := Lib.hid hts
  clear ht htb
  by_cases h10 : p + 10 ≤ s.size
  · have HD : Hid (dateI s p = dFrom s p 10 0) := Lib.hid (by unfold dateI; simp [h10])
    have i0 : ¬ (t.size : Int) < 10 := by omega
    have i1 : (10 : Int) ≤ (t.size : Int) := by omega
    clear hts
    go_enter Try.func127, Try.ntmps127
    go_wp2_with fail
    go_loop [7, 3] (fun i _ => ∃ j : Nat, j ≤ 10 ∧ i = .int .i64 j ∧ Aside0 (dFrom s p 10 0 = dFrom s p (10 - j) j)) (fun i _ => 10 - (intOf i).toNat)
    case atStart => exact ⟨0, by omega, rfl, ⟨rfl⟩⟩
    case round =>
      obtain ⟨j, hj, rfl, HF⟩ := hrel
      by_cases hlt : j < 10
      · have hlj : j < t.size := by have := HTS.out; omega
        have hb : ((t[j]'hlj).toNat : Int) = bt s ((p + j : Nat) : Int) := by rw [← bt_get t j hlj]; exact HTB.out j (by omega)
        have HB := Lib.hid hb
        have hst : dFrom s p (10 - j) j = (dOk s p j && dFrom s p (10 - (j + 1)) (j + 1)) := by
          obtain ⟨n, hn⟩ : ∃ n, 10 - j = n + 1 := ⟨10 - j - 1, by omega⟩
          rw [hn, show 10 - (j + 1) = n by omega]; rfl
        have HST := Lib.hid hst
        have ij : (j : Int) < (t.size : Int) := by omega
        clear hb hst
        by_cases h47 : j = 4 ∨ j = 7
        · have e45 : dOk s p j = (((t[j]'hlj).toNat : Int) == 45) := by unfold dOk; rw [if_pos h47, HB.out]
          rcases hv : (((t[j]'hlj).toNat : Int) == 45) with _ | _
          · have hv' : (((t[j]'hlj).toNat : Int) != 45) = true := by simp only [bne, hv]; rfl
            have HR : Hid (dateI s p = false) := Lib.hid (by rw [HD.out, HF.out, HST.out, e45, hv]; rfl)
            clear e45
            rcases h47 with rfl | rfl
            all_goals
              go_wp2_with fail
              go_ret
              exact ⟨by rw [HR.out]; rfl, rfl⟩
          · have hv' : (((t[j]'hlj).toNat : Int) != 45) = false := by simp only [bne, hv]; rfl
            have HF' := Aside0.mk (HF.out.trans (HST.out.trans (by rw [e45, hv]; rfl : _ = dFrom s p (10 - (j + 1)) (j + 1))))
            clear e45
            rcases h47 with rfl | rfl
            · go_wp2_with fail
              go_round
              case rel => exact ⟨5, by omega, rfl, HF'⟩
              case measure => simp [intOf]
            · go_wp2_with fail
              go_round
              case rel => exact ⟨8, by omega, rfl, HF'⟩
              case measure => simp [intOf]
        · have e4 : dOk s p j = (clsI ((t[j]'hlj).toNat : Int) == 4) := by unfold dOk; rw [if_neg h47, HB.out]
          have j4 : ((j : Int) == 4) = false := by simp; omega
          have j7 : ((j : Int) == 7) = false := by simp; omega
          rcases hv : (clsI ((t[j]'hlj).toNat : Int) == 4) with _ | _
          · have hv' : (clsI ((t[j]'hlj).toNat : Int) != 4) = true := by simp only [bne, hv]; rfl
            have HR : Hid (dateI s p = false) := Lib.hid (by rw [HD.out, HF.out, HST.out, e4, hv]; rfl)
            have HV := Lib.hid hv'
            clear e4 hv hv' h47
            go_wp2_with fail
            refine (classOf_any _ _).mono ?_
            rintro e w' ⟨rfl, rfl⟩
            have hv' := HV.out
            go_wp2_with fail
            go_ret
            exact ⟨by rw [HR.out]; rfl, rfl⟩
          · have hv' : (clsI ((t[j]'hlj).toNat : Int) != 4) = false := by simp only [bne, hv]; rfl
            have HF' := Aside0.mk (HF.out.trans (HST.out.trans (by rw [e4, hv]; rfl : _ = dFrom s p (10 - (j + 1)) (j + 1))))
            have HV := Lib.hid hv'
            clear e4 hv hv' h47
            go_wp2_with fail
            refine (classOf_any _ _).mono ?_
            rintro e w' ⟨rfl, rfl⟩
            have hv' := HV.out
            go_wp2_with fail
            go_round
            case rel => exact ⟨j + 1, by omega, by go_num, HF'⟩
            case measure => simp [intOf]; omega
      · have HR : Hid (dateI s p = true) := Lib.hid (by rw [HD.out, HF.out, show 10 - j = 0 by omega]; rfl)
        go_wp2_with fail
        go_ret
        exact ⟨by rw [HR.out]; rfl, rfl⟩
  · have HD : Hid (dateI s p = false) := Lib.hid (by unfold dateI; simp [h10])
    have i0 : (t.size : Int) < 10 := by omega
    go_enter Try.func127, Try.ntmps127
    go_wp2_with fail
    go_ret
    exact ⟨by rw [HD.out]; rfl, rfl⟩
set_option maxHeartbeats 1000000 in
theorem run_any (g : Nat) (s : ByteArray) (p n : Nat) (G : Int → Bool) (w : World) (hc : w.cell? ⟨g, 0, none⟩ = some (.string s)) (hp : p ≤ s.size) (hs : s.size ≤ 65536) (hlow : LowG G) (hen : ∀ args W, (callFunc n args).run Try.prog W = .ok (.enter n args) W)
    (hgood : ∀ k W, Calls Try.prog n #[.int .i64 k] W fun e w' => e = .returned (.bool (G k)) ∧ W = w') :
    Calls Try.prog 125 #[.pointer (some ⟨g, 0, none⟩), .int .i64 p, .func (.func n) #[] #[]] w fun e w' => e = .returned (.int .i64 (runI s G p : Nat)) ∧ Below w.heap.size w w' := by
  have hp0 : (p : Int) ≤ (s.size : Int) := by omega
  have HG := Aside0.mk hgood
  clear hgood
  go_enter Try.func125, Try.ntmps125
  go_wp2_with fail
  have hgl : g < w.heap.size := by
    by_cases hh : g < w.heap.size
    · exact hh
    · simp [World.cell?, Array.getElem?_eq_none (Nat.le_of_not_lt hh)] at hc
  have hpz : (p : Int) + ((s.size - p : Nat) : Int) ≤ 65536 := by omega
  obtain ⟨t, ht⟩ : ∃ t, t = s.extract p s.size := ⟨_, rfl⟩
  have hts : t.size = s.size - p := by rw [ht]; simp
  have htb : ∀ j : Nat, p + j < s.size → bt t j = bt s ((p + j : Nat) : Int) := fun j hj => by rw [ht]; exact bt_cut s p j hj
  rw [← ht]
  have HTS := Lib.hid hts
  have HTB := Aside0.mk htb
  have HC := Lib.hid hc
  clear ht hts htb hc
  go_loopw [7] (fun v7 wr => ∃ j : Nat, p + j ≤ s.size ∧ Aside0 (wr.heap[w.heap.size]? = some (.stringIter t j)) ∧ Aside0 (Below w.heap.size w wr) ∧ Aside0 (runI s G p = runI s G (p + j))) (fun _ wr => s.size - wr.iterPos w.heap.size)
  case atStart => exact ⟨0, by omega, ⟨World.iter_heap _ _ _⟩, ⟨below_alloc (Below.refl _ _) _⟩, ⟨rfl⟩⟩
  case round =>
    obtain ⟨j, hj, HI, HB, HR⟩ := hrel
    have hpos : wr.iterPos w.heap.size = j := by simp [World.iterPos, HI.out]
    have HPos := Lib.hid hpos
    clear hpos
    by_cases hlt : p + j < s.size
    · have hbt := HTB.out j hlt
      have hbg := bt_get s (p + j) hlt
      rcases hb : G (clsI ((s[p + j]'hlt).toNat : Int)) with _ | _
      · have HE : runI s G p = p + j := HR.out.trans (runI_no (by rw [hbg]; exact hb))
        have HB0 := Lib.hid hb
        have HE := Lib.hid HE
        clear hb hbg
        by_cases hlw : bt t j < 128
        · have hnx : ∀ ty, (Instr.next (.pointer (some ⟨w.heap.size, 0, none⟩)) true ty).run Try.prog wr = _ := fun ty => next_low t j ty HI.out (by have := HTS.out; omega) hlw
          have hb1 := setIter_below HB.out (Nat.le_refl w.heap.size) (.stringIter t (j + 1))
          have hc1 : (setIter wr w.heap.size (.stringIter t (j + 1))).cell? ⟨g, 0, none⟩ = some (.string s) := (hb1.cell (p := ⟨g, 0, none⟩) hgl).trans HC.out
          have HB1 := Aside0.mk hb1
          clear hb1 hbt hlw
          go_wp2_with fail
          refine (classOf_any _ _).mono ?_
          rintro e w' ⟨rfl, rfl⟩
          go_wp2_with fail
          refine (HG.out _ _).mono ?_
          rintro e w' ⟨rfl, rfl⟩
          rw [HB0.out]
          go_wp2_with fail
          go_ret
          exact ⟨ret_i (by rw [HE.out]; omega), HB1.out⟩
        · obtain ⟨c, q, hc128, hcm, hq, hnx⟩ := next_high (P := Try.prog) t j HI.out (by have := HTS.out; omega) hlw
          have hb1 := setIter_below HB.out (Nat.le_refl w.heap.size) (.stringIter t q)
          have hc1 : (setIter wr w.heap.size (.stringIter t q)).cell? ⟨g, 0, none⟩ = some (.string s) := (hb1.cell (p := ⟨g, 0, none⟩) hgl).trans HC.out
          have HB1 := Aside0.mk hb1
          clear hb1 hbt hlw
          go_wp2_with fail
          refine (classOf_any _ _).mono ?_
          rintro e w' ⟨rfl, rfl⟩
          go_wp2_with fail
          refine (HG.out _ _).mono ?_
          rintro e w' ⟨rfl, rfl⟩
          rw [HB0.out]
          go_wp2_with fail
          go_ret
          exact ⟨ret_i (by rw [HE.out]; omega), HB1.out⟩
      · have hlw : bt t j < 128 := by rw [hbt, hbg]; exact hlow _ hb
        have HR1 := Aside0.mk (HR.out.trans (runI_yes hlt (by rw [hbg]; exact hb)))
        have HB0 := Lib.hid hb
        have hnx : ∀ ty, (Instr.next (.pointer (some ⟨w.heap.size, 0, none⟩)) true ty).run Try.prog wr = _ := fun ty => next_low t j ty HI.out (by have := HTS.out; omega) hlw
        have hb1 := setIter_below HB.out (Nat.le_refl w.heap.size) (.stringIter t (j + 1))
        have hc1 : (setIter wr w.heap.size (.stringIter t (j + 1))).cell? ⟨g, 0, none⟩ = some (.string s) := (hb1.cell (p := ⟨g, 0, none⟩) hgl).trans HC.out
        have hi1 : (setIter wr w.heap.size (.stringIter t (j + 1))).heap[w.heap.size]? = some (.stringIter t (j + 1)) := setIter_same (W := wr) (g := w.heap.size) (Array.getElem?_eq_some_iff.1 HI.out).1 _
        have hp1 : (setIter wr w.heap.size (.stringIter t (j + 1))).iterPos w.heap.size = j + 1 := by simp [World.iterPos, hi1]
        have HB1 := Aside0.mk hb1
        have HI1 := Aside0.mk hi1
        have HP1 := Lib.hid hp1
        clear hb1 hi1 hbt hlw hb hbg hp1 HR
        go_wp2_with fail
        refine (classOf_any _ _).mono ?_
        rintro e w' ⟨rfl, rfl⟩
        go_wp2_with fail
        refine (HG.out _ _).mono ?_
        rintro e w' ⟨rfl, rfl⟩
        rw [HB0.out]
        go_wp2_with fail
        refine ⟨⟨j + 1, by omega, HI1, HB1, HR1⟩, ?_⟩
        rw [HPos.out, HP1.out]
        omega
    · have hnx : ∀ ty, (Instr.next (.pointer (some ⟨w.heap.size, 0, none⟩)) true ty).run Try.prog wr = _ := fun ty => next_end t j ty HI.out (by have := HTS.out; omega)
      have hc1 : wr.cell? ⟨g, 0, none⟩ = some (.string s) := (HB.out.cell (p := ⟨g, 0, none⟩) hgl).trans HC.out
      have HE := Lib.hid (HR.out.trans (runI_end (by omega)))
      go_wp2_with fail
      go_ret
      exact ⟨ret_i (by rw [HE.out]; omega), HB.out⟩
end Go.Proofs.Ytmjneidcdaapdaa.P
