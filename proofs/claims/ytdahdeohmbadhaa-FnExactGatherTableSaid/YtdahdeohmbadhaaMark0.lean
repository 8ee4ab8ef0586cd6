/- What the exact laws' marks do to a row of numbers: they write into the row that was handed over, and into nothing else. -/
import Derived.Test.YtdahdeohmbadhaaGx6
import Derived.Test.YtdahdeohmbadhaaLoops
namespace Go.Proofs.Ytdahdeohmbadhaa.Mark
open Go.RowKit Go.Lib Go.Proofs Go.Proofs.YtdahdeohmbadhaaW.PrintWords Go.Proofs.YtdahdeohmbadhaaW.PrintWords.Kd Go.Proofs.YtdahdeohmbadhaaW.PrintLast Go.Proofs.YtdahdeohmbadhaaW.PrintMore Go.Proofs.Ytdahdeohmbadhaa.G Go.Proofs.Ytdahdeohmbadhaa.Loops
set_option linter.unusedVariables false
set_option linter.unusedSimpArgs false

/-- Numbers from k on. -/
def upL : Nat → Int → List Int
  | 0, _ => []
  | n + 1, k => k :: upL n (k + 1)
theorem upL_len : ∀ n k, (upL n k).length = n
  | 0, _ => rfl
  | n + 1, k => by simp [upL, upL_len n]
theorem upL_get : ∀ (n : Nat) (k : Int) (i : Nat), i < n → (upL n k).getD i 0 = k + i
  | 0, _, _, h => absurd h (Nat.not_lt_zero _)
  | n + 1, k, 0, _ => by simp [upL]
  | n + 1, k, i + 1, h => by
    have := upL_get n (k + 1) i (by omega)
    simp only [upL, List.getD_cons_succ, this]
    omega
/-! ### one row -/
theorem mark_loop (l : List Int) (hl : l.length ≤ 9223372036854775807) (k0 : Int) (h0 : 0 ≤ k0) (hk0 : k0 + l.length < 9223372036854775807) : ∀ (d n : Nat), n ≤ l.length → l.length - n = d →
    Ev (fun k => laws_markInt64S.l0 k (upL n k0 ++ l.drop n) (k0 + n) (n : Int)) (k0 + l.length, upL l.length k0) := by
  intro d
  induction d with
  | zero =>
    intro n hn hd
    obtain rfl : n = l.length := by omega
    refine Ev.step (f := fun _ => some (k0 + (l.length : Int), upL l.length k0 ++ l.drop l.length)) (fun k => by
      simp only [laws_markInt64S.l0]
      rw [if_neg (by simp [upL_len])]) ?_
    rw [List.drop_length, List.append_nil]
    exact Ev.now _
  | succ d ih =>
    intro n hn hd
    have hlt : n < l.length := by omega
    have h1 := ih (n + 1) (by omega) (by omega)
    refine Ev.step (fun k => ?_) h1
    simp only [laws_markInt64S.l0]
    rw [if_pos (by simp [upL_len]; omega), if_pos (by omega), wrap_id (by omega) (by omega), wrap_id (by omega) (by omega)]
    have hs : (upL n k0 ++ l.drop n).set ((n : Int)).toNat (k0 + (n : Int)) = upL (n + 1) k0 ++ l.drop (n + 1) := by
      rw [Int.toNat_natCast]
      apply List.ext_getElem?
      intro j
      have hul : ∀ j, j < n + 1 → (upL (n + 1) k0)[j]? = some (k0 + j) := fun j hj => by
        have h1 := upL_get (n + 1) k0 j hj
        rw [List.getD_eq_getElem?_getD, List.getElem?_eq_getElem (by rw [upL_len]; exact hj)] at h1
        rw [List.getElem?_eq_getElem (by rw [upL_len]; exact hj)]
        simpa using h1
      have hul0 : ∀ j, j < n → (upL n k0)[j]? = some (k0 + j) := fun j hj => by
        have h1 := upL_get n k0 j hj
        rw [List.getD_eq_getElem?_getD, List.getElem?_eq_getElem (by rw [upL_len]; exact hj)] at h1
        rw [List.getElem?_eq_getElem (by rw [upL_len]; exact hj)]
        simpa using h1
      rw [List.getElem?_set]
      by_cases e : n = j
      · subst e
        rw [if_pos rfl, if_pos (by simp [upL_len]; omega), List.getElem?_append_left (by rw [upL_len]; omega), hul n (by omega)]
      · rw [if_neg e]
        by_cases hj : j < n
        · rw [List.getElem?_append_left (by rw [upL_len]; omega), List.getElem?_append_left (by rw [upL_len]; omega), hul j (by omega), hul0 j hj]
        · rw [List.getElem?_append_right (by rw [upL_len]; omega), List.getElem?_append_right (by rw [upL_len]; omega), upL_len, upL_len, List.getElem?_drop, List.getElem?_drop]
          congr 1
          omega
    rw [hs]
    congr 1
    omega
theorem mark_is (l : List Int) (hl : l.length ≤ 9223372036854775807) (k0 : Int) (h0 : 0 ≤ k0) (hk0 : k0 + l.length < 9223372036854775807) : Ev (fun k => laws_markInt64S.f k l k0) (k0 + l.length, upL l.length k0) := by
  have := mark_loop l hl k0 h0 hk0 l.length 0 (by omega) (by omega)
  show Ev (fun k => laws_markInt64S.l0 k l k0 0) _
  simpa [upL] using this

theorem markS_calls (P : Nat → Prop) (v : Value) (l : List Int) (k0 : Int) (h0 : 0 ≤ k0) (hk0 : k0 + l.length < 9223372036854775807) (w0 w : World) (hB : Below w0.heap.size w0 w) (hR : Kd.R (Kd.int .i64) 2 w w0.heap.size P v l) :
    Calls Try.prog 23 #[v, .int .i64 k0] w fun e w' => e = .returned (.int .i64 (k0 + l.length)) ∧ Kd.R (Kd.int .i64) 2 w' w0.heap.size P v (upL l.length k0) ∧ Below w0.heap.size w0 w' ∧ Kept w w' P := by
  obtain ⟨A, c, rfl, hc, hC⟩ := R_reads hR
  obtain ⟨k, hk⟩ := (mark_is l hC.2.1 k0 h0 hk0).rounds
  refine (laws_markInt64S.calls k P _ l k0 _ _ w0 w hB hR hk).mono fun e w' ⟨he, hr, hb, hkp⟩ => ⟨he, ?_, hb, hkp⟩
  refine R_mono (R_tight rfl hr) (fun k hk => hR.1 k hk.symm)


end Go.Proofs.Ytdahdeohmbadhaa.Mark
