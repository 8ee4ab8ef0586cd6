/- Contracts of crowds and familyOf, whatever predicate on sets is handed over. -/
import Derived.Test.YtmeaffkgnmgmeaaSort
import Derived.Test.YtmeaffkgnmgmeaaOpens
import Derived.Deep.RegionHeld3
import Derived.Outline
namespace Go.Proofs.Ytmeaffkgnmgmeaa.Crowds
open Go.RowKit Go.Proofs.YtmeaffkgnmgmeaaW.PrintWords Go.Proofs.YtmeaffkgnmgmeaaW.PrintWords.Kd Go.Proofs.YtmeaffkgnmgmeaaW.PrintLast Go.Proofs.YtmeaffkgnmgmeaaW.PrintMore Go.Proofs.Ytmeaffkgnmgmeaa.G Go.Proofs.Ytmeaffkgnmgmeaa.Fam Go.Proofs.Ytmeaffkgnmgmeaa.Bits Go.Proofs.Ytmeaffkgnmgmeaa.Sorting
set_option linter.unusedVariables false
set_option linter.unusedSimpArgs false

/-- What is asked of a predicate on sets below M: in every world in which all that lay in w lies untouched it hands back p of it. -/
def PredN (g : Nat) (pre lb : Array Value) (p : Nat → Bool) (M : Nat) (w : World) : Prop :=
  ∀ (W : World) (c : Nat), Below w.heap.size w W → c < M → Calls Try.prog g (pre ++ #[.int .u64 (c : Int)] ++ lb) W fun e w' => e = .returned (.bool (p c)) ∧ Below W.heap.size W w'
theorem PredN.later {g : Nat} {pre lb : Array Value} {p : Nat → Bool} {M : Nat} {w w1 : World} (h : PredN g pre lb p M w) (hb : Below w.heap.size w w1) : PredN g pre lb p M w1 :=
  fun W c hB hc => h W c (below_then hb hb.size hB) hc

theorem everybody_calls (n : Nat) (hn : n ≤ 7) (W : World) : Calls Try.prog 70 #[.int .i64 (n : Int)] W fun e w' => e = .returned (.int .u64 ((2 ^ n - 1 : Nat) : Int)) ∧ ∃ q, w' = W.drewN q :=
  (impl_everybody.calls (n : Int) _ W (everybody_is hn)).mono fun e w' ⟨he, hd⟩ => ⟨he, hd.out⟩
theorem group_calls (c : Nat) (hc : c < 128) (W : World) : Calls Try.prog 63 #[.int .u64 (c : Int)] W fun e w' => ∃ v, e = .returned v ∧ Kd.R (Kd.int .i64) 2 w' W.heap.size (fun _ => True) v (groupN c) ∧ Below W.heap.size W w' :=
  impl_crowd_group.calls 9 (c : Int) _ W (group_is hc (Nat.le_refl _))

theorem infoR : (Try.prog.info? 30).map (fun i => (i.zero, i.size, i.bytes)) = some (some (.slice none 0 0), 1, 24) := by kernel_rfl

theorem crowds_list (n : Nat) (p : Nat → Bool) (hn : n ≤ 7) : (((List.range (2 ^ n)).filter p).map groupN).Nodup := by
  have h7 : 2 ^ n ≤ 128 := by have := Nat.pow_le_pow_right (n := 2) (by omega) hn; simpa using this
  rw [List.nodup_iff_pairwise_ne, List.pairwise_map]
  refine List.Pairwise.imp_of_mem ?_ ((List.nodup_iff_pairwise_ne.1 (List.nodup_range (n := 2 ^ n))).filter p)
  intro a b ha hb hab e
  have ha' := List.mem_range.1 (List.mem_filter.1 ha).1
  have hb' := List.mem_range.1 (List.mem_filter.1 hb).1
  apply hab
  rw [← bitsN_groupN (c := a) (by omega), ← bitsN_groupN (c := b) (by omega), e]
theorem crowds_len (n : Nat) (p : Nat → Bool) (hn : n ≤ 7) : (((List.range (2 ^ n)).filter p).map groupN).length ≤ 128 := by
  have h7 : 2 ^ n ≤ 128 := by have := Nat.pow_le_pow_right (n := 2) (by omega) hn; simpa using this
  rw [List.length_map]
  have := List.length_filter_le p (List.range (2 ^ n))
  rw [List.length_range] at this
  omega

theorem S_empty {α : Type} (d : Kd α) (e : Nat) (w : World) (base : Nat) (hb : base ≤ w.heap.size) : Kd.S d e (w.alloc (.cells #[] e)) base (fun _ => True) (.slice (some ⟨w.heap.size, 0, none⟩) 0 0) [] :=
  ⟨fun _ => 0, fun _ _ => trivial, [], ⟨by simp, .inr ⟨w.heap.size, 0, #[], rfl, hb, heap_alloc_new w _, Nat.le_refl _, Nat.zero_le _, by simp, by simp⟩⟩, Reps.none _ _⟩
theorem filter_step (p : Nat → Bool) (c : Nat) : ((List.range (c + 1)).filter p).map groupN = ((List.range c).filter p).map groupN ++ (if p c = true then [groupN c] else []) := by
  rw [List.range_succ, List.filter_append, List.map_append]
  congr 1
  cases h : p c <;> simp [h]
theorem filter_len (p : Nat → Bool) (c : Nat) : (((List.range c).filter p).map groupN).length ≤ c := by
  rw [List.length_map]
  have := List.length_filter_le p (List.range c)
  rwa [List.length_range] at this

set_option maxHeartbeats 2000000 in
theorem crowds_calls (n : Nat) (hn : n ≤ 7) (g : Nat) (pre lb : Array Value) (eg : ∀ args w, (callFunc g args).run Try.prog w = .ok (.enter g args) w) (p : Nat → Bool) (w : World) (hp : PredN g pre lb p (2 ^ n) w) :
    Calls Try.prog 92 #[.int .i64 (n : Int), .func (.func g) pre lb] w fun e w' => ∃ v, e = .returned v ∧ Kd.S dR 30 w' w.heap.size (fun _ => True) v (crowdsN n p) ∧ Below w.heap.size w w' := by
  have h7 : 2 ^ n ≤ 128 := by have := Nat.pow_le_pow_right (n := 2) (by omega) hn; simpa using this
  have HE := fun W => everybody_calls n hn W
  have HP := Aside0.mk hp
  have HN := crowds_list n p hn
  have HL := crowds_len n p hn
  clear hp
  have HN' := Aside0.mk HN
  have HL' := Aside0.mk HL
  clear HN HL
  have hpos : 0 < 2 ^ n := Nat.two_pow_pos n
  unfold crowdsN
  generalize hM : 2 ^ n = M at *
  have HM := Aside0.mk hM
  clear hM
  have hm1 : ((M - 1 : Nat) : Int) = (M : Int) - 1 := by omega
  rw [hm1] at HE
  clear hm1
  go_enter Try.func92, Try.ntmps92
  go_wp2_with (fail)
  go_loopg [5, 6] M (fun gg v5 v6 wr => ∃ (c : Nat) (u : Value), c ≤ M ∧ M - c ≤ gg ∧ v6 = .int .u64 (c : Int) ∧ u = v5 ∧ Aside0 (Kd.S dR 30 wr w.heap.size (fun _ => True) u (((List.range c).filter p).map groupN)) ∧ Aside0 (Below w.heap.size w wr))
  case atStart => exact ⟨0, _, Nat.zero_le _, by omega, rfl, rfl, ⟨S_empty dR _ w _ (Nat.le_refl _)⟩, ⟨below_alloc (Below.refl _ _) _⟩⟩
  case round =>
    obtain ⟨c, u, hcM, hgg, rfl, rfl, HS, HB⟩ := hrel
    by_cases hlt : c < M
    · have hle : (c : Int) ≤ (M : Int) - 1 := by omega
      have hcall := fun W hb => HP.out W c hb hlt
      have hc128 : c < 128 := by omega
      cases hq : p c with
      | false =>
        rw [hq] at hcall
        have HQ := Aside0.mk hq
        clear hq
        go_wp2_with (first | (go_at_call 70; refine (HE _).mono ?_; rintro e w' ⟨rfl, q, rfl⟩) | (go_at_fn g; refine (hcall _ (pw_below_drewN HB.out _)).mono ?_; rintro e w' ⟨rfl, hb'⟩))
        go_roundg (M - (c + 1))
        case measure => omega
        case rel =>
          refine ⟨c + 1, _, by omega, by omega, by go_num, rfl, ⟨?_⟩, ⟨below_then (pw_below_drewN HB.out _) (pw_below_drewN HB.out _).size hb'⟩⟩
          rw [filter_step, HQ.out, if_neg (by simp), List.append_nil]
          exact S_below (S_drewN HS.out _) hb'
      | true =>
        rw [hq] at hcall
        have HQ := Aside0.mk hq
        clear hq
        have hut := Try.underlying25
        have hlen := filter_len p c
        generalize hL : ((List.range c).filter p).map groupN = L at *
        have HLL := Aside0.mk hL
        clear hL
        have Hlen := Aside0.mk hlen
        clear hlen
        go_wp2_with (first | (go_at_call 70; refine (HE _).mono ?_; rintro e w' ⟨rfl, q, rfl⟩) | (go_at_fn g; refine (hcall _ (pw_below_drewN HB.out _)).mono ?_; rintro e w1 ⟨rfl, hb1⟩; have HB1 := Aside0.mk (below_then (pw_below_drewN HB.out _) (pw_below_drewN HB.out _).size hb1); have HS1 := Aside0.mk (S_below (S_drewN HS.out _) hb1); clear hb1) | (go_at_call 63; refine (group_calls c hc128 _).mono ?_; rintro e w2 ⟨v2, rfl, hr2, hb2⟩; obtain ⟨A2, c2, rfl⟩ := R_slice hr2; have HR2 := Aside0.mk hr2; have HB2 := Aside0.mk hb2; clear hr2 hb2) | (at_builtin; refine S_append dR (w0 := w) (W := w2) w.heap.size rfl (.tmp 17) (.tmp 20) 25 30 (.slice none 0 0) 24 rfl hut infoR rfl (by decide) (by decide) u L (groupN c) [.slice A2 (groupN c).length c2] (fun _ => True) (fun k => w1.heap.size ≤ k) rfl rfl ?h1 ?h2 ?h3 ?h4 ?h5 ?h6 ?h7 ?_; (case h1 => exact ⟨_, rfl, R_mono (R_lower (R_bound HR2.out) HB1.out.size) (fun k hk => hk.2.1)⟩); (case h2 => exact fun k hk => ⟨trivial, fun e => by have := S_lt HS1.out k e.symm; omega⟩); (case h3 => exact fun _ _ => trivial); (case h4 => exact S_mono (S_old HS1.out HB2.out) (fun k hk => ⟨trivial, by have := hk.2; omega⟩)); (case h5 => exact below_then HB1.out HB1.out.size HB2.out); (case h6 => exact Nat.le_trans HB1.out.size HB2.out.size); (case h7 => have := Hlen.out; omega); intro v3 w3 hS3 hB3 hg3 hat3; have HS3 := Aside0.mk hS3; have HB3 := Aside0.mk hB3; clear hS3 hB3 hg3 hat3))
        go_roundg (M - (c + 1))
        case measure => omega
        case rel =>
          refine ⟨c + 1, _, by omega, by omega, by go_num, rfl, ⟨?_⟩, HB3⟩
          rw [filter_step, HQ.out, if_pos rfl, HLL.out]
          exact HS3.out
    · have hle : ¬ (c : Int) ≤ (M : Int) - 1 := by omega
      obtain rfl : c = M := by omega
      have hS := fun q => sort_rows w.heap.size (fun _ => True) u _ (wr.drewN q) (S_drewN HS.out q) HN'.out (by have := HL'.out; omega)
      go_wp2_with (first | (go_at_call 70; refine (HE _).mono ?_; rintro e w' ⟨rfl, q, rfl⟩) | (go_at_call 115; refine (hS _).mono ?_; rintro e w' ⟨rfl, hS', hg'⟩))
      go_ret
      exact ⟨_, rfl, hS', pw_below_grown (pw_below_drewN HB.out _) _ (pw_below_drewN HB.out _).size hg' (fun k hk => S_base HS.out k hk)⟩

end Go.Proofs.Ytmeaffkgnmgmeaa.Crowds
