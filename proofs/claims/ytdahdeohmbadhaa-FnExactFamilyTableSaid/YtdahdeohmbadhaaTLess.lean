/- Contracts of the reference's l06Less and l06RowLess. -/
import Derived.Test.YtdahdeohmbadhaaTRows
import Derived.Test.YtdahdeohmbadhaaGx5
namespace Go.Proofs.Ytdahdeohmbadhaa.TLess
open Go.RowKit Go.Lib Go.Proofs Go.Proofs.YtdahdeohmbadhaaW.PrintWords Go.Proofs.YtdahdeohmbadhaaW.PrintWords.Kd Go.Proofs.YtdahdeohmbadhaaW.PrintLast Go.Proofs.YtdahdeohmbadhaaW.PrintMore Go.Proofs.Ytdahdeohmbadhaa.G Go.Proofs.Ytdahdeohmbadhaa.Fam Go.Proofs.Ytdahdeohmbadhaa.Loops Go.Proofs.Ytdahdeohmbadhaa.Bits Go.Proofs.Ytdahdeohmbadhaa.MarkT Go.Proofs.Ytdahdeohmbadhaa.TCmp
set_option linter.unusedVariables false
set_option linter.unusedSimpArgs false

theorem getD_of {g : List Int} {i : Nat} (hi : i < g.length) : g.getD i 0 = g[i] := by simp [List.getD, List.getElem?_eq_getElem hi]
theorem less_loop (a b : List Int) (ha : a.length ≤ 9223372036854775807) : ∀ (d n : Nat), n ≤ a.length → n ≤ b.length → a.length - n = d →
  Ev (fun k => spec_l06Less.l0 k a b (n : Int)) (decide (cmpL (a.drop n) (b.drop n) < 0)) := by
 intro d
 induction d with
 | zero =>
  intro n hn hnb hd
  obtain rfl : n = a.length := by omega
  refine Ev.step (f := fun k => spec_l06Less.j1 k a b (a.length : Int) false) (fun k => by simp only [spec_l06Less.l0]; rw [if_neg (by omega)]) ?_
  refine Ev.step (f := fun _ => some (decide ((a.length : Int) < (b.length : Int)))) (fun k => by simp only [spec_l06Less.j1]; rw [if_neg (by simp)]) ?_
  rw [List.drop_length]
  rw [show decide (cmpL [] (b.drop a.length) < 0) = decide ((a.length : Int) < (b.length : Int)) from decide_eq_decide.2 (by
   by_cases h : a.length < b.length
   ·
    rw [List.drop_eq_getElem_cons h]; simp [cmpL]; omega
   ·
    rw [List.drop_eq_nil_of_le (by omega)]; simp [cmpL]; omega)]
  exact Ev.now _
 | succ d ih =>
  intro n hn hnb hd
  have hlt : n < a.length := by omega
  refine Ev.step (f := fun k => spec_l06Less.j1 k a b (n : Int) (decide ((n : Int) < (b.length : Int)))) (fun k => by simp only [spec_l06Less.l0]; rw [if_pos (by omega)]) ?_
  by_cases h : n < b.length
  ·
   rw [decide_eq_true (show (n : Int) < (b.length : Int) by omega)]
   refine Ev.step (f := fun k => if a[n] = b[n] then spec_l06Less.l0 k a b ((n + 1 : Nat) : Int) else some (decide (a[n] < b[n]))) (fun k => by
    simp only [spec_l06Less.j1]
    rw [if_pos trivial, if_pos (by omega), if_pos (by omega), if_pos (by omega), rd_nat, rd_nat, getD_of hlt, getD_of h, wrap_id (by omega) (by omega)]
    rfl) ?_
   rw [List.drop_eq_getElem_cons hlt, List.drop_eq_getElem_cons h]
   by_cases e : a[n] = b[n]
   ·
    have hc : cmpL (a[n] :: a.drop (n + 1)) (b[n] :: b.drop (n + 1)) = cmpL (a.drop (n + 1)) (b.drop (n + 1)) := by
     simp only [cmpL]; rw [if_neg (by omega), if_neg (by omega)]
    rw [hc]
    exact (ih (n + 1) (by omega) (by omega) (by omega)).congr (fun k => by simp only [if_pos e])
   ·
    have hc : (cmpL (a[n] :: a.drop (n + 1)) (b[n] :: b.drop (n + 1)) < 0) ↔ (a[n] < b[n]) := by
     simp only [cmpL]
     by_cases h1 : a[n] < b[n]
     ·
      rw [if_pos h1]; simp [h1]
     ·
      rw [if_neg h1, if_pos (by omega)]; simp [h1]
    have hc' : decide (cmpL (a[n] :: a.drop (n + 1)) (b[n] :: b.drop (n + 1)) < 0) = decide (a[n] < b[n]) := decide_eq_decide.2 hc
    rw [hc']
    exact ⟨0, fun k _ => by simp only [if_neg e]⟩
  ·
   rw [decide_eq_false (show ¬ (n : Int) < (b.length : Int) by omega)]
   refine Ev.step (f := fun _ => some (decide ((a.length : Int) < (b.length : Int)))) (fun k => by simp only [spec_l06Less.j1]; rw [if_neg (by simp)]) ?_
   rw [List.drop_eq_nil_of_le (show b.length ≤ n by omega), List.drop_eq_getElem_cons hlt]
   rw [show decide (cmpL (a[n] :: a.drop (n + 1)) [] < 0) = decide ((a.length : Int) < (b.length : Int)) from decide_eq_decide.2 (by simp [cmpL]; omega)]
   exact Ev.now _
theorem less_is (a b : List Int) (ha : a.length ≤ 9223372036854775807) : Ev (fun k => spec_l06Less.f k a b) (decide (cmpL a b < 0)) := by
 have := less_loop a b ha a.length 0 (by omega) (by omega) rfl
 rw [List.drop_zero, List.drop_zero] at this
 exact this

theorem less_calls (A A' : Option Addr) (c c' : Nat) (a b : List Int) (W : World) (ha : Kd.C (Kd.int .i64) W A a.length a) (hac : a.length ≤ c) (hb : Kd.C (Kd.int .i64) W A' b.length b) (hbc : b.length ≤ c') :
  Calls Try.prog 174 #[.slice A a.length c, .slice A' b.length c'] W fun e w' => e = .returned (.bool (decide (cmpL a b < 0))) ∧ ∃ q, w' = W.drewN q := by
 obtain ⟨k, hk⟩ := (less_is a b ha.2.1).rounds
 exact (spec_l06Less.calls k A c a A' c' b _ W ha hac hb hbc hk).mono fun e w' ⟨he, hd⟩ => ⟨he, hd.out⟩

/-- A row of a table, at an address. -/
def RowAt (W : World) (g o : Nat) (x : Row) : Prop := W.cell? ⟨g, o, none⟩ = some (.int .i64 x.f0) ∧ ∃ A c, W.cell? ⟨g, o + 1, none⟩ = some (.slice A x.f1.length c) ∧ x.f1.length ≤ c ∧ Kd.C (Kd.int .i64) W A x.f1.length x.f1
theorem RowAt.drewN {W : World} {g o : Nat} {x : Row} (h : RowAt W g o x) (q : Nat) : RowAt (W.drewN q) g o x := by
 obtain ⟨h0, A, c, h1, h2, h3⟩ := h
 exact ⟨h0, A, c, h1, h2, Kd.C_drewN h3 q⟩
theorem RowAt.below {W W' : World} {g o : Nat} {x : Row} (h : RowAt W g o x) (hb : Below W.heap.size W W') : RowAt W' g o x := by
 obtain ⟨h0, A, c, h1, h2, h3⟩ := h
 exact ⟨pw_cell_below hb h0, A, c, pw_cell_below hb h1, h2, Kd.C_below h3 hb⟩

set_option maxHeartbeats 4000000 in
set_option maxRecDepth 100000 in
theorem rowLess_calls (x y : Row) (g o g' o' : Nat) (W : World) (h1 : RowAt W g o x) (h2 : RowAt W g' o' y) :
  Calls Try.prog 138 #[.pointer (some ⟨g, o, none⟩), .pointer (some ⟨g', o', none⟩)] W fun e w' => e = .returned (.bool (decide (cmpT x y < 0))) ∧ ∃ q, w' = W.drewN q := by
 have hu := Try.underlying87
 obtain ⟨a0, A1, c1, a1, a2, a3⟩ := h1
 obtain ⟨b0, A2, c2, b1, b2, b3⟩ := h2
 have HL := fun W' h1 h2 => less_calls A1 A2 c1 c2 x.f1 y.f1 W' h1 a2 h2 b2
 have HA := Aside0.mk a3
 have HBB := Aside0.mk b3
 have HE := Aside0.mk (show cmpT x y = if x.f0 < y.f0 then -1 else if y.f0 < x.f0 then 1 else cmpL x.f1 y.f1 from rfl)
 clear a3 b3
 by_cases he : x.f0 = y.f0
 ·
  have HD := Aside0.mk (show decide (cmpT x y < 0) = decide (cmpL x.f1 y.f1 < 0) by rw [HE.out, if_neg (by omega), if_neg (by omega)])
  generalize decide (cmpL x.f1 y.f1 < 0) = r at *
  rw [he] at a0
  clear he HE
  go_enter Try.func138, Try.ntmps138
  go_wp2_with (fail)
  go_quiet (fail)
  go_wp2_with (fail)
  go_quiet (first | (go_at_call 174; exact (HL _ (Kd.C_drewN HA.out _) (Kd.C_drewN HBB.out _)).mono (fun e w'' h_ => ⟨h_.1, by obtain ⟨m, hm⟩ := h_.2; exact ⟨_, by rw [hm, World.drewN_drewN, Nat.add_assoc]⟩⟩)))
  go_wp2_with (fail)
  go_ret
  exact ⟨by rw [HD.out]; rfl, _, by first | rfl | (rw [World.drewN_drewN])⟩
 ·
  have HD := Aside0.mk (show decide (cmpT x y < 0) = decide (x.f0 < y.f0) by
   rw [HE.out]
   by_cases h : x.f0 < y.f0
   ·
    rw [if_pos h, decide_eq_true h, decide_eq_true (by omega)]
   ·
    rw [if_neg h, if_pos (by omega), decide_eq_false h, decide_eq_false (by omega)])
  have hne : (x.f0 != y.f0) = true := by simpa using he
  clear HL HE
  go_enter Try.func138, Try.ntmps138
  go_wp2_with (fail)
  go_quiet (fail)
  go_wp2_with (fail)
  go_quiet (fail)
  go_wp2_with (fail)
  go_ret
  exact ⟨by rw [HD.out]; rfl, _, by first | rfl | (rw [World.drewN_drewN])⟩

end Go.Proofs.Ytdahdeohmbadhaa.TLess
