/- Contracts of the reference's l01Minor, WithoutHolder and TrustHolder. -/
import Derived.Test.YtcgbogdkmliohaaGx5
import Derived.Test.YtcgbogdkmliohaaTabs
import Derived.Test.YtcgbogdkmliohaaSTab
import Derived.Test.YtcgbogdkmliohaaLeave
namespace Go.Proofs.Ytcgbogdkmliohaa.SMinor
open Go.RowKit Go.Lib Go.Proofs Go.Proofs.YtcgbogdkmliohaaW.PrintWords Go.Proofs.YtcgbogdkmliohaaW.PrintWords.Kd Go.Proofs.YtcgbogdkmliohaaW.PrintLast Go.Proofs.YtcgbogdkmliohaaW.PrintMore Go.Proofs.Ytcgbogdkmliohaa.G Go.Proofs.Ytcgbogdkmliohaa.Fam Go.Proofs.Ytcgbogdkmliohaa.Loops Go.Proofs.Ytcgbogdkmliohaa.Bits Go.Proofs.Ytcgbogdkmliohaa.Sorting Go.Proofs.Ytcgbogdkmliohaa.Crowds Go.Proofs.Ytcgbogdkmliohaa.Sorted Go.Proofs.Ytcgbogdkmliohaa.Idx Go.Proofs.Ytcgbogdkmliohaa.Valid Go.Proofs.Ytcgbogdkmliohaa.FamLaw Go.Proofs.Ytcgbogdkmliohaa.Opens Go.Proofs.Ytcgbogdkmliohaa.Ops Go.Proofs.Ytcgbogdkmliohaa.From Go.Proofs.Ytcgbogdkmliohaa.Ref Go.Proofs.Ytcgbogdkmliohaa.Ok Go.Proofs.Ytcgbogdkmliohaa.SDual Go.Proofs.Ytcgbogdkmliohaa.SOpen Go.Proofs.Ytcgbogdkmliohaa.Leave
set_option linter.unusedVariables false
set_option linter.unusedSimpArgs false

theorem mw_is : ∀ c : Nat, c < 64 → ∀ h : Nat, h < 7 → Go.bits .or .i64 (Go.bits .and .i64 (c : Int) (wrap64 ((shl .i64 1 (IntKind.u64.wrap (h : Int))) - 1))) (wrap64 ((Go.bits .andNot .i64 (c : Int) (wrap64 ((shl .i64 1 (IntKind.u64.wrap (h : Int))) - 1))) * 2)) = ((wideN c h : Nat) : Int) := by decide +kernel
theorem mo_is : ∀ d : Nat, d < 128 → ∀ h : Nat, h < 7 → Go.bits .or .i64 (d : Int) (shl .i64 1 (IntKind.u64.wrap (h : Int))) = ((d ||| 1 <<< h : Nat) : Int) := by decide +kernel
theorem mu_is : ∀ h : Nat, h < 7 → 0 ≤ IntKind.u64.wrap (h : Int) := by decide +kernel
theorem minor_loop (m : Nat) (hm : m ≤ 6) (gs : List (List Int)) (h : Nat) (hh : h ≤ m) (t : Bool) : ∀ (d c : Nat), c ≤ 2 ^ m → 2 ^ m - c = d →
    Ev (fun k => spec_l01Minor.l0 k (h : Int) t (tableN (m + 1) gs) (tab (leaveP gs h t.toNat) c) (c : Int) ((m : Int) + 1) gs) ((m : Int), famN m (leaveP gs h t.toNat), 0, (m : Int) + 1) := by
  have h64 : 2 ^ m ≤ 64 := by have := Nat.pow_le_pow_right (n := 2) (by omega) hm; simpa using this
  have hlen : (tableN (m + 1) gs).length = 2 * 2 ^ m := by rw [tableN_len, Nat.pow_succ]; omega
  have hp : 2 ^ (m + 1) = 2 * 2 ^ m := by rw [Nat.pow_succ]; omega
  have hhalf : wrap64 (((tableN (m + 1) gs).length : Int) / 2) = ((2 ^ m : Nat) : Int) := by
    rw [hlen, show (((2 * 2 ^ m : Nat) : Int)) / 2 = ((2 ^ m : Nat) : Int) by omega, wrap_id (by omega) (by omega)]
  have HMU := Aside0.mk (mu_is h (show h < 7 by omega))
  have hwd := fun c hc => wide_lt (n := m) (c := c) (h := h) hm hc hh
  rw [hp] at hwd
  generalize hM : 2 ^ m = M at *
  intro d
  induction d with
  | zero =>
    intro c hc hd
    obtain rfl : c = M := by omega
    refine Ev.step (f := fun _ => (spec_l01From.f (wrap64 ((m : Int) + 1 - 1)) (tab (leaveP gs h t.toNat) c)).bind fun bt => some (bt.1, bt.2, 0, (m : Int) + 1)) (fun k => by
      simp only [spec_l01Minor.l0]; rw [if_neg (by rw [hhalf]; omega)]) ?_
    rw [show wrap64 ((m : Int) + 1 - 1) = (m : Int) by rw [show (m : Int) + 1 - 1 = (m : Int) by omega, wrap_id (by omega) (by omega)], ← hM, show spec_l01From.f (m : Int) (tab (leaveP gs h t.toNat) (2 ^ m)) = some ((m : Int), famN m (leaveP gs h t.toNat)) from from_tabF (by omega) _]
    exact Ev.now _
  | succ d ih =>
    intro c hc hd
    have hlt : c < M := by omega
    have h1 := ih (c + 1) (by omega) (by omega)
    rw [tab_succ] at h1
    have hw : wrap64 ((c : Int) + 1) = ((c + 1 : Nat) : Int) := by rw [wrap_id (by omega) (by omega)]; omega
    have hc64 : c < 64 := Nat.lt_of_lt_of_le hlt h64
    have hh7 : h < 7 := by omega
    have hwn := mw_is c hc64 h hh7
    have hb := hwd c hlt
    have hw1 := hb.1
    have hw2 := hb.2
    clear hb
    have hd128 : wideN c h < 128 := Nat.lt_of_lt_of_le hw1 (Nat.mul_le_mul_left 2 h64)
    have hon := mo_is _ hd128 h hh7
    generalize hW : wideN c h = W at *
    generalize hW2 : W ||| 1 <<< h = W2 at *
    have hp0 : leaveP gs h 0 c = openN gs W := by simp only [leaveP, Nat.zero_shiftLeft, Nat.or_zero, hW]
    have hp1 : leaveP gs h 1 c = openN gs W2 := by simp only [leaveP, hW, hW2]
    have hat : ∀ x, x < 2 * M → rdOf false (tableN (m + 1) gs) ((x : Nat) : Int) = openN gs x := fun x hx => by
      rw [rdOf_nat]
      have := tableN_at (n := m + 1) (gs := gs) (c := x) (by rw [hp]; exact hx)
      unfold tb at this
      exact this
    have hx9 : ((tab (leaveP gs h t.toNat) c).length : Int) < 140737488355328 := by rw [tab_len]; omega
    refine Ev.step (fun k => ?_) h1
    simp only [spec_l01Minor.l0]
    rw [if_pos (by rw [hhalf]; omega), if_pos HMU.out, hwn]
    cases t with
    | true =>
      rw [if_pos rfl, hon, if_pos (by omega), if_pos (by rw [hlen]; omega), if_pos (by rw [tab_len]; omega), hat _ hw2, hw, ← hp1]
      rfl
    | false =>
      rw [if_neg (by simp), if_pos (by omega), if_pos (by rw [hlen]; omega), if_pos (by rw [tab_len]; omega), hat _ hw1, hw, ← hp0]
      rfl
theorem minor_is (n : Int) (gs : List (List Int)) (h : Int) (t : Bool) (hgl : ∀ g ∈ gs, g.length ≤ 9223372036854775807) (hl : gs.length ≤ 9223372036854775807) :
    Ev (fun k => spec_l01Minor.f k n gs h t) ((LeaveF n gs h t.toNat).1, (LeaveF n gs h t.toNat).2.1, (LeaveF n gs h t.toNat).2.2, n) := by
  unfold LeaveF spec_l01Minor.f
  simp only [spec_l01Ok.f, Option.bind_some]
  by_cases hv : ValidF n gs
  · have hn := hv.1
    rw [if_pos hv]
    simp only [decide_eq_true hv, ↓reduceIte, in_is, show wrap64 (n - 1) = n - 1 from wrap_id (by omega) (by omega), Option.bind_some]
    by_cases hh : 0 ≤ h ∧ h ≤ n - 1
    · rw [if_pos hh]
      simp only [decide_eq_true hh, ↓reduceIte]
      by_cases h1 : n = 1
      · rw [if_pos h1]
        simp only [if_pos h1]
        exact Ev.now _
      · rw [if_neg h1]
        simp only [if_neg h1]
        obtain ⟨m, rfl⟩ : ∃ m : Nat, n = (m : Int) + 1 := ⟨(n - 1).toNat, by omega⟩
        obtain ⟨a, rfl⟩ : ∃ a : Nat, h = (a : Int) := ⟨h.toNat, by omega⟩
        have ht := table_is (m + 1) (by omega) gs (smalls_of hv) hgl hl
        rw [show (((m + 1 : Nat) : Nat) : Int) = (m : Int) + 1 by omega] at ht
        refine Ev.bind ht ?_
        have := minor_loop m (by omega) gs a (by omega) t (2 ^ m) 0 (Nat.zero_le _) (Nat.sub_zero _)
        rw [show ((m : Int) + 1 - 1) = (m : Int) by omega, Int.toNat_natCast, Int.toNat_natCast]
        exact this
    · rw [if_neg hh]
      simp only [decide_eq_false hh, Bool.false_eq_true, ↓reduceIte]
      exact Ev.now _
  · rw [if_neg hv]
    simp only [decide_eq_false hv, Bool.false_eq_true, ↓reduceIte]
    exact Ev.now _
theorem l01Minor_calls (g : Nat) (n : Int) (gs : List (List Int)) (h : Int) (t : Bool) (w0 w : World) (hI : IsS26 w0 w g n gs) (hB : Below w0.heap.size w0 w) :
    Calls Try.prog 60 #[.pointer (some ⟨g, 0, none⟩), .int .i64 h, .bool t] w fun e w' => ∃ v, e = .returned (.tuple #[.agg #[.int .i64 (LeaveF n gs h t.toNat).1, v], .int .i64 (LeaveF n gs h t.toNat).2.2]) ∧ Kd.S dR 38 w' w.heap.size (fun _ => True) v (LeaveF n gs h t.toNat).2.1 ∧ Below w0.heap.size w0 w' ∧ KeepBut w w' g none := by
  have hI' := hI
  obtain ⟨A, c, _, _, hC⟩ := hI'
  have hl := lens_of hC
  obtain ⟨k, hk⟩ := (minor_is n gs h t hl.2 hl.1).rounds
  refine (spec_l01Minor.calls k g n gs h t _ _ _ _ w0 w hI hB hk).mono ?_
  rintro e w' ⟨v, he, hs, _, hb, hk⟩
  exact ⟨v, he, hs, hb, hk⟩

set_option maxHeartbeats 2000000 in
theorem SWithoutHolder_calls (n : Int) (A : Option Addr) (cap : Nat) (gs : List (List Int)) (h : Int) (w : World) (hC : dR.C w A gs.length gs) (hcap : gs.length ≤ cap) :
    Calls Try.prog 20 #[.agg #[.int .i64 n, .slice A gs.length cap], .int .i64 h] w (FamRes w (LeaveF n gs h 0).1 (LeaveF n gs h 0).2.1 (LeaveF n gs h 0).2.2) := by
  have hu := Try.underlying26
  have HD := fun W hI hB => l01Minor_calls w.heap.size n gs h false w W hI hB
  simp only [Bool.toNat_false] at HD
  have HI := Aside0.mk (show IsS26 w ((w.alloc (.cells #[.int .i64 n, .slice A gs.length cap] 26)).alloc (.cells #[.int .i64 0, .slice none 0 0] 26)) w.heap.size n gs from ⟨A, cap, blk_alloc (blk_new w (.cells #[.int .i64 n, .slice A gs.length cap] 26)) (.cells #[.int .i64 0, .slice none 0 0] 26), Nat.le_refl _, hC⟩)
  have HZ := Aside0.mk (show ((w.alloc (.cells #[.int .i64 n, .slice A gs.length cap] 26)).alloc (.cells #[.int .i64 0, .slice none 0 0] 26)).heap[w.heap.size + 1]? = some (.cells #[.int .i64 0, .slice none 0 0] 26 (0, 0)) from blk_at (by simp))
  clear hC
  obtain ⟨⟨r1, r2, r3⟩, hr⟩ : ∃ r, LeaveF n gs h 0 = r := ⟨_, rfl⟩
  rw [hr] at HD ⊢
  clear hr
  go_enter Try.func20, Try.ntmps20
  go_wp2_with (fail)
  (refine (HD _ HI.out (below_alloc (below_alloc (Below.refl _ _) _) _)).mono ?_; rintro e w2 ⟨v2, rfl, hs2, hb2, hk2⟩; have HZ2 := Aside0.mk (hk2.blk HZ.out (by omega) (by simp)); have z0 : w2.cell? ⟨w.heap.size + 1, 0, none⟩ = some (.int .i64 0) := (blk_cell HZ2.out 0).trans rfl; have z1 : w2.cell? ⟨w.heap.size + 1, 1, none⟩ = some (.slice none 0 0) := (blk_cell HZ2.out 1).trans rfl; have f0 := blk_frozen HZ2.out 0; have f1 := blk_frozen HZ2.out 1; obtain ⟨A2, c2, rfl⟩ := S_slice hs2; have HS := Aside0.mk hs2; have HB2 := Aside0.mk hb2; clear hs2 hb2 hk2)
  go_wp2_with (fail)
  have p0 := fun a b => put0 (a := a) (b := b) HZ2.out
  have p1 := fun a b => put1 (a := a) (b := b) HZ2.out
  refine bodyPost_ret (v := .tuple #[.agg #[.int .i64 r1, .slice A2 r2.length c2], .int .i64 r3]) (by simp [results, Try.results20, go_sem, p0, p1]) rfl ⟨_, rfl, S_put HZ2.out (S_lower HS.out (by simp; omega)), ?_⟩
  exact below_set (below_set HB2.out (by omega)) (by omega)

set_option maxHeartbeats 2000000 in
theorem STrustHolder_calls (n : Int) (A : Option Addr) (cap : Nat) (gs : List (List Int)) (h : Int) (w : World) (hC : dR.C w A gs.length gs) (hcap : gs.length ≤ cap) :
    Calls Try.prog 14 #[.agg #[.int .i64 n, .slice A gs.length cap], .int .i64 h] w (FamRes w (LeaveF n gs h 1).1 (LeaveF n gs h 1).2.1 (LeaveF n gs h 1).2.2) := by
  have hu := Try.underlying26
  have HD := fun W hI hB => l01Minor_calls w.heap.size n gs h true w W hI hB
  simp only [Bool.toNat_true] at HD
  have HI := Aside0.mk (show IsS26 w ((w.alloc (.cells #[.int .i64 n, .slice A gs.length cap] 26)).alloc (.cells #[.int .i64 0, .slice none 0 0] 26)) w.heap.size n gs from ⟨A, cap, blk_alloc (blk_new w (.cells #[.int .i64 n, .slice A gs.length cap] 26)) (.cells #[.int .i64 0, .slice none 0 0] 26), Nat.le_refl _, hC⟩)
  have HZ := Aside0.mk (show ((w.alloc (.cells #[.int .i64 n, .slice A gs.length cap] 26)).alloc (.cells #[.int .i64 0, .slice none 0 0] 26)).heap[w.heap.size + 1]? = some (.cells #[.int .i64 0, .slice none 0 0] 26 (0, 0)) from blk_at (by simp))
  clear hC
  obtain ⟨⟨r1, r2, r3⟩, hr⟩ : ∃ r, LeaveF n gs h 1 = r := ⟨_, rfl⟩
  rw [hr] at HD ⊢
  clear hr
  go_enter Try.func14, Try.ntmps14
  go_wp2_with (fail)
  (refine (HD _ HI.out (below_alloc (below_alloc (Below.refl _ _) _) _)).mono ?_; rintro e w2 ⟨v2, rfl, hs2, hb2, hk2⟩; have HZ2 := Aside0.mk (hk2.blk HZ.out (by omega) (by simp)); have z0 : w2.cell? ⟨w.heap.size + 1, 0, none⟩ = some (.int .i64 0) := (blk_cell HZ2.out 0).trans rfl; have z1 : w2.cell? ⟨w.heap.size + 1, 1, none⟩ = some (.slice none 0 0) := (blk_cell HZ2.out 1).trans rfl; have f0 := blk_frozen HZ2.out 0; have f1 := blk_frozen HZ2.out 1; obtain ⟨A2, c2, rfl⟩ := S_slice hs2; have HS := Aside0.mk hs2; have HB2 := Aside0.mk hb2; clear hs2 hb2 hk2)
  go_wp2_with (fail)
  have p0 := fun a b => put0 (a := a) (b := b) HZ2.out
  have p1 := fun a b => put1 (a := a) (b := b) HZ2.out
  refine bodyPost_ret (v := .tuple #[.agg #[.int .i64 r1, .slice A2 r2.length c2], .int .i64 r3]) (by simp [results, Try.results14, go_sem, p0, p1]) rfl ⟨_, rfl, S_put HZ2.out (S_lower HS.out (by simp; omega)), ?_⟩
  exact below_set (below_set HB2.out (by omega)) (by omega)

end Go.Proofs.Ytcgbogdkmliohaa.SMinor
