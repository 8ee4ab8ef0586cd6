/- JoinTables' guard: slices.ContainsFunc at rows, and its two predicates. -/
import Derived.Test.YtdahdeohmbadhaaTJoinS
namespace Go.Proofs.Ytdahdeohmbadhaa.TJoin
open Go.RowKit Go.Lib Go.Proofs Go.Proofs.YtdahdeohmbadhaaW.PrintWords Go.Proofs.YtdahdeohmbadhaaW.PrintWords.Kd Go.Proofs.YtdahdeohmbadhaaW.PrintLast Go.Proofs.YtdahdeohmbadhaaW.PrintMore Go.Proofs.Ytdahdeohmbadhaa.G Go.Proofs.Ytdahdeohmbadhaa.Fam Go.Proofs.Ytdahdeohmbadhaa.Loops Go.Proofs.Ytdahdeohmbadhaa.MarkT Go.Proofs.Ytdahdeohmbadhaa.TSort Go.Proofs.Ytdahdeohmbadhaa.TCmp Go.Proofs.Ytdahdeohmbadhaa.TLess Go.Proofs.Ytdahdeohmbadhaa.TShape Go.Proofs.Ytdahdeohmbadhaa.TOk Go.Proofs.Ytdahdeohmbadhaa.TValid Go.Proofs.Ytdahdeohmbadhaa.TMerge Go.Proofs.Ytdahdeohmbadhaa.ExTC Go.Proofs.Ytdahdeohmbadhaa.TMade Go.Proofs.Ytdahdeohmbadhaa.TGather
set_option linter.unusedVariables false
set_option linter.unusedSimpArgs false
/-- What is asked of a predicate on rows (that reads their secrets alone). -/
def PredR (P : Program) (g : Nat) (lb : Array Value) (p : Row → Bool) (w : World) : Prop :=
  ∀ (W : World) (x : Row) (A : Option Addr) (c : Nat), Below w.heap.size w W → Calls P g (#[.agg #[.int .i64 x.f0, .slice A x.f1.length c]] ++ lb) W fun e w' => e = .returned (.bool (p x)) ∧ Below W.heap.size W w'
/-- What IndexFunc tells. -/
def IdxR (p : Row → Bool) (xs : List Row) (r : Int) : Prop := (r = -1 ∧ xs.any p = false) ∨ (0 ≤ r ∧ xs.any p = true)
theorem IdxR.any {p : Row → Bool} {xs : List Row} {r : Int} (h : IdxR p xs r) : decide (r ≥ 0) = xs.any p := by
  rcases h with ⟨rfl, h⟩ | ⟨hr, h⟩
  · rw [h]; rfl
  · rw [h]; simpa using hr
set_option maxHeartbeats 4000000 in
theorem idx_R (g : Nat) (lb : Array Value) (eg : ∀ args w, (callFunc g args).run Try.prog w = .ok (.enter g args) w) (p : Row → Bool) (A : Option Addr) (c : Nat) (xs : List Row) (w : World)
    (hC : Kd.C dW w A xs.length xs) (hp : PredR Try.prog g lb p w) :
    Calls Try.prog 144 #[.slice A xs.length c, .func (.func g) #[] lb] w fun e w' => (∃ r, e = .returned (.int .i64 r) ∧ IdxR p xs r) ∧ Below w.heap.size w w' := by
  have hbig : xs.length ≤ 9223372036854775807 := hC.2.1
  have HC := Aside0.mk hC
  have HP := Aside0.mk hp
  clear hC hp
  go_enter Try.func144, Try.ntmps144
  go_wp2
  go_loopg [5, 8] xs.length (fun gg _ s8 wr => ∃ kk : Nat, kk ≤ xs.length ∧ xs.length - kk ≤ gg ∧ s8 = .int .i64 kk ∧ Aside0 (Below w.heap.size w wr) ∧ Aside0 (∀ (j : Nat) (hj : j < xs.length), j < kk → p xs[j] = false))
  case atStart => exact ⟨0, Nat.zero_le _, by omega, rfl, ⟨Below.refl _ w⟩, ⟨fun j _ hj => absurd hj (Nat.not_lt_zero _)⟩⟩
  case round =>
    obtain ⟨kk, hkk, hg, rfl, BW, AA⟩ := hrel
    by_cases hlt : kk < xs.length
    · have hltz : (kk : Int) < (xs.length : Int) := by omega
      obtain ⟨ad, A1, c1, rfl, l0, l1, _, _⟩ := at_T87 HC.out (kk : Int) (by omega) (by omega)
      have l0' := pw_cell_below BW.out l0
      have l1' := pw_cell_below BW.out l1
      rw [rdW xs hlt, Int.toNat_natCast] at l0' l1'
      have hcall := HP.out wr xs[kk] A1 c1 BW.out
      clear l0 l1
      cases hq : p xs[kk] with
      | true =>
        rw [hq] at hcall
        have HQ := Aside0.mk hq
        clear hq
        go_wp2_with (go_at_fn g; refine hcall.mono ?_; rintro e w' ⟨rfl, hb'⟩)
        go_ret
        exact ⟨⟨_, rfl, .inr ⟨by omega, List.any_eq_true.2 ⟨_, List.getElem_mem hlt, HQ.out⟩⟩⟩, below_then BW.out BW.out.size hb'⟩
      | false =>
        rw [hq] at hcall
        have HQ := Aside0.mk hq
        clear hq
        go_wp2_with (go_at_fn g; refine hcall.mono ?_; rintro e w' ⟨rfl, hb'⟩)
        go_roundg (xs.length - (kk + 1))
        case measure => omega
        case rel =>
          refine ⟨kk + 1, by omega, by omega, by go_num, ⟨below_then BW.out BW.out.size hb'⟩, ⟨fun j hj hj' => ?_⟩⟩
          by_cases e : j = kk
          · subst e
            exact HQ.out
          · exact AA.out j hj (by omega)
    · have hltz : ¬ (kk : Int) < (xs.length : Int) := by omega
      obtain rfl : kk = xs.length := by omega
      go_wp2
      go_ret
      refine ⟨⟨_, rfl, .inl ⟨rfl, List.any_eq_false.2 fun x hx => ?_⟩⟩, BW.out⟩
      obtain ⟨j, hj, rfl⟩ := List.mem_iff_getElem.1 hx
      rw [AA.out j hj hj]
      exact Bool.false_ne_true
set_option maxHeartbeats 1000000 in
theorem contains_R (g : Nat) (lb : Array Value) (eg : ∀ args w, (callFunc g args).run Try.prog w = .ok (.enter g args) w) (p : Row → Bool) (A : Option Addr) (c : Nat) (xs : List Row) (w : World)
    (hC : Kd.C dW w A xs.length xs) (hp : PredR Try.prog g lb p w) :
    Calls Try.prog 84 #[.slice A xs.length c, .func (.func g) #[] lb] w fun e w' => e = .returned (.bool (xs.any p)) ∧ Below w.heap.size w w' := by
  have H := idx_R g lb eg p A c xs w hC hp
  clear hC hp
  go_enter Try.func84, Try.ntmps84
  go_wp2_with (go_at_call 144; refine H.mono ?_; rintro e w' ⟨⟨r, rfl, hr⟩, hb⟩)
  go_ret
  exact ⟨by rw [← hr.any]; rfl, hb⟩

/-! ### the two predicates -/
set_option maxHeartbeats 1000000 in
theorem same_calls (W : World) (ga : Nat) (a : Int) (x : Row) (A : Option Addr) (c : Nat) (hx : W.cell? ⟨ga, 0, none⟩ = some (.int .i64 a)) :
    Calls Try.prog 86 (#[.agg #[.int .i64 x.f0, .slice A x.f1.length c]] ++ #[.pointer (some ⟨ga, 0, none⟩)]) W fun e w' => e = .returned (.bool (decide (a = x.f0))) ∧ Below W.heap.size W w' := by
  show Calls Try.prog 86 #[.agg #[.int .i64 x.f0, .slice A x.f1.length c], .pointer (some ⟨ga, 0, none⟩)] W _
  have hu := Try.underlying87
  have hbw := below_alloc (Below.refl W.heap.size W) (.cells #[.int .i64 x.f0, .slice A x.f1.length c] 87)
  have y0 := pw_cell_below hbw hx
  have z0 := (blk_cell (blk_new W (.cells #[.int .i64 x.f0, .slice A x.f1.length c] 87)) 0).trans (show _ = some (Value.int .i64 x.f0) from rfl)
  have HB := Aside0.mk hbw
  clear hbw hx
  generalize hd : decide (a = x.f0) = dd
  go_enter Try.func86, Try.ntmps86
  go_wp2_with (fail)
  go_ret
  exact ⟨by rw [← hd]; rfl, HB.out⟩
set_option maxHeartbeats 1000000 in
theorem has_calls (W : World) (gu : Nat) (B2 : Option Addr) (d2 : Nat) (us : List Row) (a : Row) (A : Option Addr) (c : Nat) (hx : W.cell? ⟨gu, 2, none⟩ = some (.slice B2 us.length d2)) (hC : Kd.C dW W B2 us.length us) :
    Calls Try.prog 85 (#[.agg #[.int .i64 a.f0, .slice A a.f1.length c]] ++ #[.pointer (some ⟨gu, 0, none⟩)]) W fun e w' => e = .returned (.bool (us.any (alike a))) ∧ Below W.heap.size W w' := by
  show Calls Try.prog 85 #[.agg #[.int .i64 a.f0, .slice A a.f1.length c], .pointer (some ⟨gu, 0, none⟩)] W _
  have hu := Try.underlying27
  have hbw := below_alloc (Below.refl W.heap.size W) (.cells #[.int .i64 a.f0, .slice A a.f1.length c] 87)
  have y0 := pw_cell_below hbw hx
  have z0 := (blk_cell (blk_new W (.cells #[.int .i64 a.f0, .slice A a.f1.length c] 87)) 0).trans (show _ = some (Value.int .i64 a.f0) from rfl)
  have H := contains_R 86 #[.pointer (some ⟨W.heap.size, 0, none⟩)] (enters_of Try.func86 (by kernel_rfl) rfl) (alike a) B2 d2 us _ (Kd.C_below hC hbw) (fun W' x A' c' hb' => same_calls W' _ a.f0 x A' c' (pw_cell_below hb' z0))
  have HB := Aside0.mk hbw
  clear hbw hx hC z0
  go_enter Try.func85, Try.ntmps85
  go_wp2_with (fail)
  (refine H.mono ?_; rintro e w' ⟨rfl, hb⟩)
  go_wp2_with (fail)
  go_ret
  exact ⟨rfl, below_then HB.out HB.out.size hb⟩
/-- The guard. -/
theorem any_all (zs : List Int) (rs us : List Row) : (rs.any fun a => us.any (alike a)) = true ↔ ¬ allP sel zs rs us = [] := by
  unfold allP
  rw [List.flatMap_eq_nil_iff]
  constructor
  · intro h h2
    obtain ⟨a, ha, hb⟩ := List.any_eq_true.1 h
    obtain ⟨b, hb, he⟩ := List.any_eq_true.1 hb
    have h3 := h2 a ha
    rw [List.map_eq_nil_iff, List.filter_eq_nil_iff] at h3
    exact h3 b hb he
  · intro h
    by_cases hx : (rs.any fun a => us.any (alike a)) = true
    · exact hx
    · exfalso
      apply h
      intro a ha
      rw [List.map_eq_nil_iff, List.filter_eq_nil_iff]
      intro b hb he
      exact hx (List.any_eq_true.2 ⟨a, ha, List.any_eq_true.2 ⟨b, hb, he⟩⟩)
end Go.Proofs.Ytdahdeohmbadhaa.TJoin
