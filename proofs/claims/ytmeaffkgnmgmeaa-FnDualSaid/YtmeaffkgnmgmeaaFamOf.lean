/- Contract of familyOf, whatever predicate on sets is handed over. -/
import Derived.Test.YtmeaffkgnmgmeaaCrowds
import Derived.Deep.RegionHeld3
import Derived.BigQuiet
import Derived.Outline
namespace Go.Proofs.Ytmeaffkgnmgmeaa.FamOf
open Go.RowKit Go.Proofs.YtmeaffkgnmgmeaaW.PrintWords Go.Proofs.YtmeaffkgnmgmeaaW.PrintWords.Kd Go.Proofs.YtmeaffkgnmgmeaaW.PrintLast Go.Proofs.YtmeaffkgnmgmeaaW.PrintMore Go.Proofs.Ytmeaffkgnmgmeaa.G Go.Proofs.Ytmeaffkgnmgmeaa.Fam Go.Proofs.Ytmeaffkgnmgmeaa.Bits Go.Proofs.Ytmeaffkgnmgmeaa.Sorting Go.Proofs.Ytmeaffkgnmgmeaa.Crowds
set_option linter.unusedVariables false
set_option linter.unusedSimpArgs false

theorem has_calls (c h : Nat) (hc : c < 128) (hh : h < 7) (W : World) : Calls Try.prog 101 #[.int .u64 (c : Int), .int .i64 (h : Int)] W fun e w' => e = .returned (.bool (c.testBit h)) ∧ ∃ q, w' = W.drewN q :=
  (impl_crowd_has.calls (c : Int) (h : Int) _ W (has_is hc hh)).mono fun e w' ⟨he, hd⟩ => ⟨he, hd.out⟩

/-- Sets without one of their holders. -/
theorem without_all : ∀ c : Fin 128, ∀ h : Fin 7, c.val.testBit h.val = true → Go.bits .andNot .u64 ((c.val : Nat) : Int) (IntKind.u64.wrap (2 ^ h.val)) = ((c.val ^^^ 1 <<< h.val : Nat) : Int) := by decide +kernel
theorem without_is {c h : Nat} (hc : c < 128) (hh : h < 7) (ht : c.testBit h = true) : Go.bits .andNot .u64 (c : Int) (IntKind.u64.wrap (2 ^ h)) = ((c ^^^ 1 <<< h : Nat) : Int) := without_all ⟨c, hc⟩ ⟨h, hh⟩ ht
theorem without_lt {n c h : Nat} (hc : c < 2 ^ n) (ht : c.testBit h = true) : c ^^^ 1 <<< h < 2 ^ n := by
  apply Nat.xor_lt_two_pow hc
  rw [Nat.one_shiftLeft]
  apply Nat.pow_lt_pow_right (by omega)
  rcases Nat.lt_or_ge h n with h1 | h1
  · exact h1
  · have := Nat.testBit_lt_two_pow (x := c) (i := h) (Nat.lt_of_lt_of_le hc (Nat.pow_le_pow_right (by omega) h1))
    rw [this] at ht; cases ht

theorem keepS {w W : World} {a : Addr} {v : Value} (h : w.cell? a = some v) (hb : Below w.heap.size w W) : W.cell? a = some v ∧ Below w.heap.size w W := ⟨pw_cell_below hb h, hb⟩

set_option maxHeartbeats 2000000 in
theorem least_calls (n : Nat) (hn : n ≤ 7) (g : Nat) (pre lb : Array Value) (eg : ∀ args w, (callFunc g args).run Try.prog w = .ok (.enter g args) w) (p : Nat → Bool) (B1 B2 : Nat) (w : World) (hp : PredN g pre lb p (2 ^ n) w)
    (h1 : w.cell? ⟨B1, 0, none⟩ = some (.func (.func g) pre lb)) (h2 : w.cell? ⟨B2, 0, none⟩ = some (.int .i64 (n : Int))) (c : Nat) (hc : c < 2 ^ n) (W : World) (hb : Below w.heap.size w W) :
    Calls Try.prog 100 #[.int .u64 (c : Int), .pointer (some ⟨B1, 0, none⟩), .pointer (some ⟨B2, 0, none⟩)] W fun e w' => e = .returned (.bool (leastN n p c)) ∧ Below w.heap.size w w' := by
  have h7 : 2 ^ n ≤ 128 := by have := Nat.pow_le_pow_right (n := 2) (by omega) hn; simpa using this
  have hc128 : c < 128 := by omega
  have HP := Aside0.mk hp
  have HB := Aside0.mk hb
  have H1 := Aside0.mk h1
  have H2 := Aside0.mk h2
  have HC := Aside0.mk hc
  clear hp hb h1 h2 hc h7
  cases hq : p c with
  | false =>
    have hcall := HP.out W c HB.out HC.out
    rw [hq] at hcall
    have hc1 := pw_cell_below HB.out H1.out
    have HQ := Aside0.mk hq
    clear hq
    go_enter Try.func100, Try.ntmps100
    go_wp2_with (go_at_fn g; refine hcall.mono ?_; rintro e w' ⟨rfl, hb'⟩)
    go_ret
    refine ⟨?_, below_then HB.out HB.out.size hb'⟩
    rw [show leastN n p c = false from by unfold leastN; rw [HQ.out]; rfl]
    rfl
  | true =>
    have hcall := HP.out W c HB.out HC.out
    rw [hq] at hcall
    have hc1 := pw_cell_below HB.out H1.out
    have HQ := Aside0.mk hq
    clear hq
    go_enter Try.func100, Try.ntmps100
    go_wp2_with (first | (go_at_fn g; refine hcall.mono ?_; rintro e w1 ⟨rfl, hb1⟩; have HB1 := Aside0.mk (below_then HB.out HB.out.size hb1); have hc2 := pw_cell_below HB1.out H2.out; clear hb1))
    go_loopg [5, 11] n (fun gg _ v11 wr => ∃ h : Nat, h ≤ n ∧ n - h ≤ gg ∧ v11 = .int .i64 (h : Int) ∧ Aside0 (Below w.heap.size w wr) ∧ Aside0 (∀ j, j < h → (!(c.testBit j && p (c ^^^ 1 <<< j))) = true))
    case atStart => exact ⟨0, Nat.zero_le _, by omega, rfl, HB1, ⟨fun j hj => absurd hj (Nat.not_lt_zero _)⟩⟩
    case round =>
      obtain ⟨h, hhn, hgg, rfl, HB2, HA⟩ := hrel
      by_cases hlt : h < n
      · have hltz : (h : Int) < (n : Int) := by omega
        have HH := fun W => has_calls c h hc128 (by omega) W
        cases ht : c.testBit h with
        | false =>
          rw [ht] at HH
          have HT := Aside0.mk ht
          clear ht
          go_wp2
          go_quiet (first | (go_at_call 101; exact Calls.quiet_of (HH _)))
          go_wp2
          go_roundg (n - (h + 1))
          case measure => omega
          case rel =>
            refine ⟨h + 1, by omega, by omega, by go_num, ⟨by repeat (first | exact HB2.out | apply pw_below_drewN)⟩, ⟨fun j hj => ?_⟩⟩
            by_cases e : j = h
            · subst e; rw [HT.out]; rfl
            · exact HA.out j (by omega)
        | true =>
          have hw := without_is hc128 (show h < 7 by omega) ht
          have hcall2 := fun W hb => HP.out W (c ^^^ 1 <<< h) hb (without_lt HC.out ht)
          rw [ht] at HH
          have HT := Aside0.mk ht
          clear ht
          generalize hd : c ^^^ 1 <<< h = d at *
          have HD := Aside0.mk hd
          clear hd
          have hc3 := pw_cell_below HB2.out H1.out
          have hB2 := HB2.out
          cases hq2 : p d with
          | true =>
            rw [hq2] at hcall2
            have HQ2 := Aside0.mk hq2
            clear hq2
            go_wp2
            go_region_held3 (fun W => W.cell? ⟨B1, 0, none⟩ = some (.func (.func g) pre lb) ∧ Below w.heap.size w W) ((refine keepS H1.out ?_; repeat (first | assumption | apply below_drew | apply pw_below_drewN))) (first | (go_at_call 101; refine (HH _).mono ?_; rintro e w' ⟨rfl, q, rfl⟩) | (go_at_fn g; refine (hcall2 _ ?_).mono ?_; (repeat (first | assumption | apply below_drew | apply pw_below_drewN)); rintro e w9 ⟨rfl, hb9⟩; have HB9 := below_then (by repeat (first | assumption | apply below_drew | apply pw_below_drewN)) (by have := hB2.size; simp; omega) hb9))
            go_wp2
            go_ret
            refine ⟨?_, HB9⟩
            have hf : ((List.range n).all fun h => !(c.testBit h && p (c ^^^ 1 <<< h))) = false := by
              rw [List.all_eq_false]
              exact ⟨h, List.mem_range.2 hlt, by rw [HT.out, HD.out, HQ2.out]; simp⟩
            rw [show leastN n p c = false from by unfold leastN; rw [hf, Bool.and_false]]
            rfl
          | false =>
            rw [hq2] at hcall2
            have HQ2 := Aside0.mk hq2
            clear hq2
            go_wp2
            go_region_held3 (fun W => W.cell? ⟨B1, 0, none⟩ = some (.func (.func g) pre lb) ∧ Below w.heap.size w W) ((refine keepS H1.out ?_; repeat (first | assumption | apply below_drew | apply pw_below_drewN))) (first | (go_at_call 101; refine (HH _).mono ?_; rintro e w' ⟨rfl, q, rfl⟩) | (go_at_fn g; refine (hcall2 _ ?_).mono ?_; (repeat (first | assumption | apply below_drew | apply pw_below_drewN)); rintro e w9 ⟨rfl, hb9⟩; have HB9 := below_then (by repeat (first | assumption | apply below_drew | apply pw_below_drewN)) (by have := hB2.size; simp; omega) hb9))
            go_wp2
            go_roundg (n - (h + 1))
            case measure => omega
            case rel =>
              refine ⟨h + 1, by omega, by omega, by go_num, ⟨HB9⟩, ⟨fun j hj => ?_⟩⟩
              by_cases e : j = h
              · subst e; rw [HT.out, HD.out, HQ2.out]; rfl
              · exact HA.out j (by omega)
      · have hltz : ¬ (h : Int) < (n : Int) := by omega
        obtain rfl : h = n := by omega
        go_wp2
        go_ret
        refine ⟨?_, HB2.out⟩
        have hf : ((List.range h).all fun j => !(c.testBit j && p (c ^^^ 1 <<< j))) = true := by
          rw [List.all_eq_true]
          exact fun j hj => HA.out j (List.mem_range.1 hj)
        rw [show leastN h p c = true from by unfold leastN; rw [hf, HQ.out]; rfl]
        rfl

set_option maxHeartbeats 2000000 in
theorem familyOf_calls (n : Nat) (hn : n ≤ 7) (g : Nat) (pre lb : Array Value) (eg : ∀ args w, (callFunc g args).run Try.prog w = .ok (.enter g args) w) (p : Nat → Bool) (w : World) (hp : PredN g pre lb p (2 ^ n) w) :
    Calls Try.prog 57 #[.int .i64 (n : Int), .func (.func g) pre lb] w fun e w' => ∃ v, e = .returned (.agg #[.int .i64 (n : Int), v]) ∧ Kd.S dR 30 w' w.heap.size (fun _ => True) v (famN n p) ∧ Below w.heap.size w w' := by
  have eg2 : ∀ args w, (callFunc 100 args).run Try.prog w = .ok (.enter 100 args) w := enters_of Try.func100 (by kernel_rfl) rfl
  have HP := Aside0.mk hp
  clear hp
  unfold famN
  go_enter Try.func57, Try.ntmps57
  go_wp2_with (fail)
  obtain ⟨W1, hW1⟩ : ∃ W1 : World, W1 = (w.alloc (.cells #[.int .i64 (n : Int)] 2)).alloc (.cells #[.func (.func g) pre lb] 67) := ⟨_, rfl⟩
  rw [← hW1]
  have hs1 : W1.heap.size = w.heap.size + 1 + 1 := by rw [hW1]; simp
  rw [← hs1]
  have hb1 : Below w.heap.size w W1 := by rw [hW1]; exact below_alloc (below_alloc (Below.refl _ _) _) _
  have c1 : W1.cell? ⟨w.heap.size, 0, none⟩ = some (.int .i64 (n : Int)) := by rw [hW1]; exact blk_cell (cs := #[.int .i64 (n : Int)]) (blk_alloc (blk_new w _) _) 0
  have c2 : W1.cell? ⟨w.heap.size + 1, 0, none⟩ = some (.func (.func g) pre lb) := by rw [hW1]; exact blk_cell (cs := #[.func (.func g) pre lb]) (by simpa using blk_new (w.alloc (.cells #[.int .i64 (n : Int)] 2)) (.cells #[.func (.func g) pre lb] 67)) 0
  clear hW1
  have HB1 := Aside0.mk hb1
  have C1 := Aside0.mk c1
  have C2 := Aside0.mk c2
  have HS1 := Aside0.mk hs1
  clear hb1 c1 c2 hs1
  generalize hB1 : w.heap.size + 1 = b1 at *
  generalize hB0 : w.heap.size = b0 at *
  have hb0W : b0 ≤ W1.heap.size := by rw [← hB0]; exact HB1.out.size
  have HBW := Aside0.mk hb0W
  clear hb0W
  obtain ⟨W0, hW0⟩ : ∃ W0 : World, W0 = W1.alloc (.cells #[.int .i64 0, .slice none 0 0] 27) := ⟨_, rfl⟩
  rw [← hW0]
  have hb01 : Below W1.heap.size W1 W0 := by rw [hW0]; exact below_alloc (Below.refl _ _) _
  have b3 : W0.heap[W1.heap.size]? = some (.cells #[.int .i64 0, .slice none 0 0] 27 (0, 0)) := by rw [hW0]; exact blk_new W1 _
  clear hW0
  have B3 := Aside0.mk b3
  have HB01 := Aside0.mk hb01
  clear b3 hb01
  generalize hB2 : W1.heap.size = b2 at *
  have HE0 := Aside0.mk hB0
  have HE2 := Aside0.mk hB2
  clear hB0 hB1 hB2
  have hcr : ∀ (W : World) (hb : Below W0.heap.size W0 W), Calls Try.prog 92 #[.int .i64 (n : Int), .func (.func 100) #[] #[.pointer (some ⟨b1, 0, none⟩), .pointer (some ⟨b0, 0, none⟩)]] W fun e w' => ∃ v, e = .returned v ∧ Kd.S dR 30 w' b0 (fun k => W0.heap.size ≤ k) v (crowdsN n (leastN n p)) ∧ Below W0.heap.size W0 w' ∧ Below b2 W1 w' := fun W hb => by
    obtain rfl := HE0.out
    obtain rfl := HE2.out
    have hw1 : ∀ W', Below W.heap.size W W' → Below W1.heap.size W1 W' := fun W' hb' => below_then HB01.out HB01.out.size (below_then hb hb.size hb')
    exact (crowds_calls n hn 100 #[] #[.pointer (some ⟨b1, 0, none⟩), .pointer (some ⟨w.heap.size, 0, none⟩)] eg2 (leastN n p) W (fun W' c hb' hc =>
      least_calls n hn g pre lb eg p b1 w.heap.size W' (HP.out.later (below_then HB1.out HB1.out.size (hw1 W' hb'))) (pw_cell_below (hw1 W' hb') C2.out) (pw_cell_below (hw1 W' hb') C1.out) c hc W' (Below.refl _ _))).mono
      fun e w' ⟨v, he, hs, hb'⟩ => ⟨v, he, S_mono (S_lower (S_bound hs) (Nat.le_trans HBW.out (Nat.le_trans HB01.out.size hb.size))) (fun k hk => Nat.le_trans hb.size hk.2.1), below_then hb hb.size hb', hw1 w' hb'⟩
  obtain rfl := HE2.out
  go_region_held3 (fun W => W.cell? ⟨b0, 0, none⟩ = some (.int .i64 (n : Int)) ∧ Below W1.heap.size W1 W) ((refine keepS C1.out ?_; repeat (first | exact HB01.out | assumption | apply below_drew | apply pw_below_drewN | refine below_set ?_ (Nat.le_refl _)))) (first | (go_at_call 92; refine (hcr _ ?_).mono ?_; (repeat (first | exact Below.refl _ _ | assumption | apply below_drew | apply pw_below_drewN)); rintro e w9 ⟨v9, rfl, hs9, hb9, hb91⟩; have HZ9 := Aside0.mk (blk_below B3.out hb9); have z0 : w9.cell? ⟨W1.heap.size, 0, none⟩ = some (.int .i64 0) := (blk_cell HZ9.out 0).trans rfl; have z1 : w9.cell? ⟨W1.heap.size, 1, none⟩ = some (.slice none 0 0) := (blk_cell HZ9.out 1).trans rfl; have f0 := blk_frozen HZ9.out 0; have f1 := blk_frozen HZ9.out 1; obtain ⟨A9, c9, rfl⟩ := S_slice hs9))
  go_wp2
  have ht : ∀ q, q ∈ 30 :: dR.E → q ≠ 27 := by intro q hq; simp [dR, Kd.slice, Kd.int, Kd.scalar] at hq; omega
  have hz2 := blk_set HZ9.out 0 (.int .i64 (n : Int))
  have hz3 := blk_set hz2 1 (.slice A9 (crowdsN n (leastN n p)).length c9)
  refine bodyPost_ret (v := .agg #[.int .i64 (n : Int), .slice A9 (crowdsN n (leastN n p)).length c9]) ?_ rfl ⟨_, rfl, ?_, ?_⟩
  · have e0 := (blk_cell hz3 0)
    have e1 := (blk_cell hz3 1)
    have e0' : ((w9.setCell ⟨W1.heap.size, 0, none⟩ (.int .i64 (n : Int))).setCell ⟨W1.heap.size, 1, none⟩ (.slice A9 (crowdsN n (leastN n p)).length c9)).cell? ⟨W1.heap.size, 0, none⟩ = some (.int .i64 (n : Int)) := e0.trans (by simp)
    have e1' : ((w9.setCell ⟨W1.heap.size, 0, none⟩ (.int .i64 (n : Int))).setCell ⟨W1.heap.size, 1, none⟩ (.slice A9 (crowdsN n (leastN n p)).length c9)).cell? ⟨W1.heap.size, 1, none⟩ = some (.slice A9 (crowdsN n (leastN n p)).length c9) := e1.trans (by simp)
    clear e0 e1
    have hu := Try.underlying27
    simp [results, Try.results57, go_sem, e0', e1']
  · obtain rfl := HE0.out
    exact S_mono (S_set (S_set hs9 HZ9.out ht 0 _) hz2 ht 1 _) (fun _ _ => trivial)
  · obtain rfl := HE0.out
    exact below_set (below_set (below_then HB1.out HB1.out.size hb91) HBW.out) HBW.out

end Go.Proofs.Ytmeaffkgnmgmeaa.FamOf
