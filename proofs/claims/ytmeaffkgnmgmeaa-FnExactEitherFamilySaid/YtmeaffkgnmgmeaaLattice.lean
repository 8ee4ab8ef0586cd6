/- Contracts of EitherFamily and BothFamilies. -/
import Derived.Test.YtmeaffkgnmgmeaaGx4
import Derived.Test.YtmeaffkgnmgmeaaCrowds
namespace Go.Proofs.Ytmeaffkgnmgmeaa.Lattice
open Go.RowKit Go.Proofs.YtmeaffkgnmgmeaaW.PrintWords Go.Proofs.YtmeaffkgnmgmeaaW.PrintWords.Kd Go.Proofs.YtmeaffkgnmgmeaaW.PrintLast Go.Proofs.YtmeaffkgnmgmeaaW.PrintMore Go.Proofs.Ytmeaffkgnmgmeaa.G Go.Proofs.Ytmeaffkgnmgmeaa.Fam Go.Proofs.Ytmeaffkgnmgmeaa.Bits Go.Proofs.Ytmeaffkgnmgmeaa.Loops Go.Proofs.Ytmeaffkgnmgmeaa.Valid Go.Proofs.Ytmeaffkgnmgmeaa.Opens Go.Proofs.Ytmeaffkgnmgmeaa.Idx Go.Proofs.Ytmeaffkgnmgmeaa.Sorting Go.Proofs.Ytmeaffkgnmgmeaa.Crowds Go.Proofs.Ytmeaffkgnmgmeaa.FamOf Go.Proofs.Ytmeaffkgnmgmeaa.Ops
set_option linter.unusedVariables false
set_option linter.unusedSimpArgs false

/-- What twoFamilies tells. -/
def twoC (n : Int) (gs : List (List Int)) (m : Int) (hs : List (List Int)) : Int := if ValidF n gs ∧ ValidF m hs then (if n = m then 0 else 2) else 1
theorem two_is (n : Int) (gs : List (List Int)) (m : Int) (hs : List (List Int)) (h1 : gs.length ≤ 9223372036854775807 ∧ ∀ g ∈ gs, g.length ≤ 9223372036854775807) (h2 : hs.length ≤ 9223372036854775807 ∧ ∀ g ∈ hs, g.length ≤ 9223372036854775807) : Ev (fun k => impl_twoFamilies.f k n gs m hs) (twoC n gs m hs) := by
  have e1 := valid_is n gs h1.1 h1.2
  have e2 := valid_is m hs h2.1 h2.2
  unfold impl_twoFamilies.f
  refine Ev.bind e1 ?_
  by_cases v1 : ValidF n gs
  · simp only [decide_eq_true v1, if_true]
    refine Ev.bind e2 ?_
    by_cases v2 : ValidF m hs
    · refine Ev.step (f := fun _ => some (if n = m then 0 else 2)) (fun k => by simp only [decide_eq_true v2, impl_twoFamilies.j0]; rw [if_neg (by simp)]; split <;> rfl) ?_
      have : twoC n gs m hs = if n = m then 0 else 2 := if_pos ⟨v1, v2⟩
      rw [this]
      exact Ev.now _
    · refine Ev.step (f := fun _ => some 1) (fun k => by simp only [decide_eq_false v2, impl_twoFamilies.j0]; rw [if_pos (by simp)]) ?_
      unfold twoC
      rw [if_neg (fun h => v2 h.2)]
      exact Ev.now _
  · simp only [decide_eq_false v1, Bool.false_eq_true, if_false]
    refine Ev.step (f := fun _ => some 1) (fun k => by simp only [impl_twoFamilies.j0]; rw [if_pos trivial]) ?_
    unfold twoC
    rw [if_neg (fun h => v1 h.1)]
    exact Ev.now _
theorem two_calls (n : Int) (A : Option Addr) (cap : Nat) (gs : List (List Int)) (m : Int) (A' : Option Addr) (cap' : Nat) (hs : List (List Int)) (w : World) (hC : dR.C w A gs.length gs) (hcap : gs.length ≤ cap) (hC' : dR.C w A' hs.length hs) (hcap' : hs.length ≤ cap') :
    Calls Try.prog 88 #[.agg #[.int .i64 n, .slice A gs.length cap], .agg #[.int .i64 m, .slice A' hs.length cap']] w fun e w' => e = .returned (.int .i64 (twoC n gs m hs)) ∧ Below w.heap.size w w' := by
  obtain ⟨k, hk⟩ := (two_is n gs m hs (lens_of hC) (lens_of hC')).rounds
  exact impl_twoFamilies.calls k n A cap gs m A' cap' hs _ w hC hcap hC' hcap' hk
/-- Both boxes. -/
theorem boxes (w : World) (n : Int) (A : Option Addr) (cap : Nat) (gs : List (List Int)) (m : Int) (A' : Option Addr) (cap' : Nat) (hs : List (List Int)) (hC : dR.C w A gs.length gs) (hC' : dR.C w A' hs.length hs) (W : World)
    (hW : Below (w.heap.size + 1 + 1) ((w.alloc (.cells #[.int .i64 n, .slice A gs.length cap] 27)).alloc (.cells #[.int .i64 m, .slice A' hs.length cap'] 27)) W) : FamBox W w.heap.size n A cap gs ∧ FamBox W (w.heap.size + 1) m A' cap' hs := by
  have hb : Below (((w.alloc (.cells #[.int .i64 n, .slice A gs.length cap] 27)).alloc (.cells #[.int .i64 m, .slice A' hs.length cap'] 27))).heap.size ((w.alloc (.cells #[.int .i64 n, .slice A gs.length cap] 27)).alloc (.cells #[.int .i64 m, .slice A' hs.length cap'] 27)) W := hW.mono (by simp)
  refine ⟨((FamBox.new w n A cap gs 27 hC).later (below_alloc (Below.refl _ _) _)).later hb, ?_⟩
  have := (FamBox.new (w.alloc (.cells #[.int .i64 n, .slice A gs.length cap] 27)) m A' cap' hs 27 (Kd.C_alloc hC' _)).later hb
  simpa using this

/-! ### EitherFamily -/
def eitherP (gs hs : List (List Int)) (c : Nat) : Bool := openN gs c || openN hs c
set_option maxHeartbeats 1000000 in
theorem either1_calls (n m : Int) (A A' : Option Addr) (cap cap' : Nat) (gs hs : List (List Int)) (hcap : gs.length ≤ cap) (hcap' : hs.length ≤ cap') (hs1 : Smalls gs) (hs2 : Smalls hs) (B1 B2 : Nat) (W : World) (h1 : FamBox W B1 n A cap gs) (h2 : FamBox W B2 m A' cap' hs) (c : Nat) (hc : c < 128) :
    Calls Try.prog 89 #[.int .u64 (c : Int), .pointer (some ⟨B1, 0, none⟩), .pointer (some ⟨B2, 0, none⟩)] W fun e w' => e = .returned (.bool (eitherP gs hs c)) ∧ Below W.heap.size W w' := by
  have H1 := opens_calls n A cap gs c W h1.2.2 hcap hs1 hc
  have H2 := fun W' hb => opens_calls m A' cap' hs c W' (C_below h2.2.2 hb) hcap' hs2 hc
  have c1 := h1.1
  have c2 := h1.2.1
  have D1 := Aside0.mk h2.1
  have D2 := Aside0.mk h2.2.1
  have hu := Try.underlying27
  clear h1 h2 hc
  have HDP : Aside0 (eitherP gs hs c = (openN gs c || openN hs c)) := ⟨rfl⟩
  cases hq : openN gs c with
  | true =>
    rw [hq] at H1
    have HQ := Aside0.mk hq
    clear hq
    go_enter Try.func89, Try.ntmps89
    go_wp2_with (go_at_call_of 73 (Value.agg #[.int .i64 n, .slice A gs.length cap]); refine H1.mono ?_; rintro e w' ⟨rfl, hb⟩)
    go_ret
    exact ⟨by rw [HDP.out, HQ.out]; rfl, hb⟩
  | false =>
    rw [hq] at H1
    have HQ := Aside0.mk hq
    clear hq
    cases hq2 : openN hs c with
    | false =>
      rw [hq2] at H2
      have HQ2 := Aside0.mk hq2
      clear hq2
      go_enter Try.func89, Try.ntmps89
      go_wp2_with (first | (go_at_call_of 73 (Value.agg #[.int .i64 n, .slice A gs.length cap]); refine H1.mono ?_; rintro e w1 ⟨rfl, hb⟩; have d1 := pw_cell_below hb D1.out; have d2 := pw_cell_below hb D2.out; have HB1 := Aside0.mk hb; clear hb) | (go_at_call 73; refine (H2 _ HB1.out).mono ?_; rintro e w2 ⟨rfl, hb⟩; have HB2 := below_then HB1.out HB1.out.size hb))
      go_ret
      exact ⟨by rw [HDP.out, HQ.out, HQ2.out]; rfl, HB2⟩
    | true =>
      rw [hq2] at H2
      have HQ2 := Aside0.mk hq2
      clear hq2
      go_enter Try.func89, Try.ntmps89
      go_wp2_with (first | (go_at_call_of 73 (Value.agg #[.int .i64 n, .slice A gs.length cap]); refine H1.mono ?_; rintro e w1 ⟨rfl, hb⟩; have d1 := pw_cell_below hb D1.out; have d2 := pw_cell_below hb D2.out; have HB1 := Aside0.mk hb; clear hb) | (go_at_call 73; refine (H2 _ HB1.out).mono ?_; rintro e w2 ⟨rfl, hb⟩; have HB2 := below_then HB1.out HB1.out.size hb))
      go_ret
      exact ⟨by rw [HDP.out, HQ.out, HQ2.out]; rfl, HB2⟩

/-! ### BothFamilies -/
def bothP (gs hs : List (List Int)) (c : Nat) : Bool := openN gs c && openN hs c
set_option maxHeartbeats 1000000 in
theorem both1_calls (n m : Int) (A A' : Option Addr) (cap cap' : Nat) (gs hs : List (List Int)) (hcap : gs.length ≤ cap) (hcap' : hs.length ≤ cap') (hs1 : Smalls gs) (hs2 : Smalls hs) (B1 B2 : Nat) (W : World) (h1 : FamBox W B1 n A cap gs) (h2 : FamBox W B2 m A' cap' hs) (c : Nat) (hc : c < 128) :
    Calls Try.prog 90 #[.int .u64 (c : Int), .pointer (some ⟨B1, 0, none⟩), .pointer (some ⟨B2, 0, none⟩)] W fun e w' => e = .returned (.bool (bothP gs hs c)) ∧ Below W.heap.size W w' := by
  have H1 := opens_calls n A cap gs c W h1.2.2 hcap hs1 hc
  have H2 := fun W' hb => opens_calls m A' cap' hs c W' (C_below h2.2.2 hb) hcap' hs2 hc
  have c1 := h1.1
  have c2 := h1.2.1
  have D1 := Aside0.mk h2.1
  have D2 := Aside0.mk h2.2.1
  have hu := Try.underlying27
  clear h1 h2 hc
  have HDP : Aside0 (bothP gs hs c = (openN gs c && openN hs c)) := ⟨rfl⟩
  cases hq : openN gs c with
  | false =>
    rw [hq] at H1
    have HQ := Aside0.mk hq
    clear hq
    go_enter Try.func90, Try.ntmps90
    go_wp2_with (go_at_call_of 73 (Value.agg #[.int .i64 n, .slice A gs.length cap]); refine H1.mono ?_; rintro e w' ⟨rfl, hb⟩)
    go_ret
    exact ⟨by rw [HDP.out, HQ.out]; rfl, hb⟩
  | true =>
    rw [hq] at H1
    have HQ := Aside0.mk hq
    clear hq
    cases hq2 : openN hs c with
    | false =>
      rw [hq2] at H2
      have HQ2 := Aside0.mk hq2
      clear hq2
      go_enter Try.func90, Try.ntmps90
      go_wp2_with (first | (go_at_call_of 73 (Value.agg #[.int .i64 n, .slice A gs.length cap]); refine H1.mono ?_; rintro e w1 ⟨rfl, hb⟩; have d1 := pw_cell_below hb D1.out; have d2 := pw_cell_below hb D2.out; have HB1 := Aside0.mk hb; clear hb) | (go_at_call 73; refine (H2 _ HB1.out).mono ?_; rintro e w2 ⟨rfl, hb⟩; have HB2 := below_then HB1.out HB1.out.size hb))
      go_ret
      exact ⟨by rw [HDP.out, HQ.out, HQ2.out]; rfl, HB2⟩
    | true =>
      rw [hq2] at H2
      have HQ2 := Aside0.mk hq2
      clear hq2
      go_enter Try.func90, Try.ntmps90
      go_wp2_with (first | (go_at_call_of 73 (Value.agg #[.int .i64 n, .slice A gs.length cap]); refine H1.mono ?_; rintro e w1 ⟨rfl, hb⟩; have d1 := pw_cell_below hb D1.out; have d2 := pw_cell_below hb D2.out; have HB1 := Aside0.mk hb; clear hb) | (go_at_call 73; refine (H2 _ HB1.out).mono ?_; rintro e w2 ⟨rfl, hb⟩; have HB2 := below_then HB1.out HB1.out.size hb))
      go_ret
      exact ⟨by rw [HDP.out, HQ.out, HQ2.out]; rfl, HB2⟩

set_option maxHeartbeats 2000000 in
theorem EitherFamily_no (n : Int) (A : Option Addr) (cap : Nat) (gs : List (List Int)) (m : Int) (A' : Option Addr) (cap' : Nat) (hs : List (List Int)) (w : World) (hC : dR.C w A gs.length gs) (hcap : gs.length ≤ cap) (hC' : dR.C w A' hs.length hs) (hcap' : hs.length ≤ cap') (z : Int) (hz : twoC n gs m hs = z) (hz0 : z = 1 ∨ z = 2) :
    Calls Try.prog 38 #[.agg #[.int .i64 n, .slice A gs.length cap], .agg #[.int .i64 m, .slice A' hs.length cap']] w (FamRes w 0 [] z) := by
  have hu := Try.underlying27
  have HV := fun W h h' => two_calls n A cap gs m A' cap' hs W h hcap h' hcap'
  rw [hz] at HV
  have HC := Aside0.mk hC
  have HC' := Aside0.mk hC'
  clear hC hC' hz
  have hz12 : z = 1 ∨ z = 2 := hz0
  rcases hz12 with rfl | rfl
  · go_enter Try.func38, Try.ntmps38
    go_wp2_with (go_at_call 88; refine (HV _ (Kd.C_alloc (Kd.C_alloc (Kd.C_alloc HC.out _) _) _) (Kd.C_alloc (Kd.C_alloc (Kd.C_alloc HC'.out _) _) _)).mono ?_; rintro e w1 ⟨rfl, hb1⟩; have HZ := Aside0.mk (blk_below (blk_at (k := w.heap.size + 1 + 1) (by simp)) hb1); have z0 : w1.cell? ⟨w.heap.size + 1 + 1, 0, none⟩ = some (.int .i64 0) := (blk_cell HZ.out 0).trans rfl; have z1 : w1.cell? ⟨w.heap.size + 1 + 1, 1, none⟩ = some (.slice none 0 0) := (blk_cell HZ.out 1).trans rfl; have f0 := blk_frozen HZ.out 0; have f1 := blk_frozen HZ.out 1; have HB := Aside0.mk hb1; clear hb1)
    have p0 := fun a b => put0 (a := a) (b := b) HZ.out
    have p1 := fun a b => put1 (a := a) (b := b) HZ.out
    have h1 : Below w.heap.size w w1 := below_then (below_alloc (below_alloc (below_alloc (Below.refl _ _) _) _) _) (by simp; omega) HB.out
    refine bodyPost_ret (v := .tuple #[.agg #[.int .i64 0, .slice none 0 0], .int .i64 1]) (by simp [results, Try.results38, go_sem, p0, p1]) rfl ⟨_, rfl, S_nil _ _ _ _ _, ?_⟩
    exact below_set (below_set h1 (by omega)) (by omega)
  · go_enter Try.func38, Try.ntmps38
    go_wp2_with (go_at_call 88; refine (HV _ (Kd.C_alloc (Kd.C_alloc (Kd.C_alloc HC.out _) _) _) (Kd.C_alloc (Kd.C_alloc (Kd.C_alloc HC'.out _) _) _)).mono ?_; rintro e w1 ⟨rfl, hb1⟩; have HZ := Aside0.mk (blk_below (blk_at (k := w.heap.size + 1 + 1) (by simp)) hb1); have z0 : w1.cell? ⟨w.heap.size + 1 + 1, 0, none⟩ = some (.int .i64 0) := (blk_cell HZ.out 0).trans rfl; have z1 : w1.cell? ⟨w.heap.size + 1 + 1, 1, none⟩ = some (.slice none 0 0) := (blk_cell HZ.out 1).trans rfl; have f0 := blk_frozen HZ.out 0; have f1 := blk_frozen HZ.out 1; have HB := Aside0.mk hb1; clear hb1)
    have p0 := fun a b => put0 (a := a) (b := b) HZ.out
    have p1 := fun a b => put1 (a := a) (b := b) HZ.out
    have h1 : Below w.heap.size w w1 := below_then (below_alloc (below_alloc (below_alloc (Below.refl _ _) _) _) _) (by simp; omega) HB.out
    refine bodyPost_ret (v := .tuple #[.agg #[.int .i64 0, .slice none 0 0], .int .i64 2]) (by simp [results, Try.results38, go_sem, p0, p1]) rfl ⟨_, rfl, S_nil _ _ _ _ _, ?_⟩
    exact below_set (below_set h1 (by omega)) (by omega)

set_option maxHeartbeats 2000000 in
theorem EitherFamily_yes (n : Nat) (hn : n ≤ 7) (A : Option Addr) (cap : Nat) (gs : List (List Int)) (A' : Option Addr) (cap' : Nat) (hs : List (List Int)) (w : World) (hC : dR.C w A gs.length gs) (hcap : gs.length ≤ cap) (hC' : dR.C w A' hs.length hs) (hcap' : hs.length ≤ cap') (h1 : ValidF n gs) (h2 : ValidF n hs) :
    Calls Try.prog 38 #[.agg #[.int .i64 (n : Int), .slice A gs.length cap], .agg #[.int .i64 (n : Int), .slice A' hs.length cap']] w (FamRes w (n : Int) (famN n (eitherP gs hs)) 0) := by
  have eg : ∀ args w, (callFunc 89 args).run Try.prog w = .ok (.enter 89 args) w := enters_of Try.func89 (by kernel_rfl) rfl
  have hu := Try.underlying27
  have h7 : 2 ^ n ≤ 128 := by have := Nat.pow_le_pow_right (n := 2) (by omega) hn; simpa using this
  have HV := fun W h h' => two_calls (n : Int) A cap gs (n : Int) A' cap' hs W h hcap h' hcap'
  rw [show twoC (n : Int) gs (n : Int) hs = 0 from by unfold twoC; rw [if_pos ⟨h1, h2⟩, if_pos rfl]] at HV
  have HF := fun W (h : FamBox W w.heap.size (n : Int) A cap gs ∧ FamBox W (w.heap.size + 1) (n : Int) A' cap' hs) => familyOf_calls n hn 89 #[] #[.pointer (some ⟨w.heap.size, 0, none⟩), .pointer (some ⟨w.heap.size + 1, 0, none⟩)] eg (eitherP gs hs) W
    (fun W' c hb hc => either1_calls (n : Int) (n : Int) A A' cap cap' gs hs hcap hcap' (smalls_of h1) (smalls_of h2) w.heap.size (w.heap.size + 1) W' (h.1.later hb) (h.2.later hb) c (by omega))
  have HBX := Aside0.mk (boxes w (n : Int) A cap gs (n : Int) A' cap' hs hC hC')
  have HC := Aside0.mk hC
  have HC' := Aside0.mk hC'
  clear hC hC' h1 h2 h7
  generalize hF : famN n (eitherP gs hs) = F at *
  have HFF := Aside0.mk hF
  clear hF
  go_enter Try.func38, Try.ntmps38
  go_wp2_with (first | (go_at_call 88; refine (HV _ (Kd.C_alloc (Kd.C_alloc (Kd.C_alloc HC.out _) _) _) (Kd.C_alloc (Kd.C_alloc (Kd.C_alloc HC'.out _) _) _)).mono ?_; rintro e w1 ⟨rfl, hb1⟩; have HZ := Aside0.mk (blk_below (blk_at (k := w.heap.size + 1 + 1) (by simp)) hb1); have HX := Aside0.mk (HBX.out w1 ((below_then (below_alloc (Below.refl _ _) _) (by simp) hb1).mono (by simp))); have cf0 := HX.out.1.1; have cf1 := HX.out.1.2.1; have HB := Aside0.mk hb1; clear hb1) | (go_at_call 57; refine (HF _ HX.out).mono ?_; rintro e w2 ⟨v2, rfl, hs2, hb2⟩; have HZ2 := Aside0.mk (blk_below HZ.out hb2); have z0 : w2.cell? ⟨w.heap.size + 1 + 1, 0, none⟩ = some (.int .i64 0) := (blk_cell HZ2.out 0).trans rfl; have z1 : w2.cell? ⟨w.heap.size + 1 + 1, 1, none⟩ = some (.slice none 0 0) := (blk_cell HZ2.out 1).trans rfl; have f0 := blk_frozen HZ2.out 0; have f1 := blk_frozen HZ2.out 1; obtain ⟨A2, c2, rfl⟩ := S_slice hs2; have HS := Aside0.mk hs2; have HB2 := Aside0.mk hb2; clear hs2 hb2))
  have p0 := fun a b => put0 (a := a) (b := b) HZ2.out
  have p1 := fun a b => put1 (a := a) (b := b) HZ2.out
  have hsz : w.heap.size ≤ w1.heap.size := by have := HB.out.size; simp at this; omega
  have h1 : Below w.heap.size w w2 := below_then (below_then (below_alloc (below_alloc (below_alloc (Below.refl _ _) _) _) _) (by simp; omega) HB.out) hsz HB2.out
  refine bodyPost_ret (v := .tuple #[.agg #[.int .i64 (n : Int), .slice A2 F.length c2], .int .i64 0]) (by simp [results, Try.results38, go_sem, p0, p1]) rfl ⟨_, rfl, S_put HZ2.out (S_lower HS.out hsz), ?_⟩
  exact below_set (below_set h1 (by omega)) (by omega)

def EitherFamilyF (n : Int) (gs : List (List Int)) (m : Int) (hs : List (List Int)) : Int × List (List Int) × Int := if twoC n gs m hs = 0 then (n, famN n.toNat (eitherP gs hs), 0) else (0, [], twoC n gs m hs)
theorem EitherFamilyF_calls (n : Int) (A : Option Addr) (cap : Nat) (gs : List (List Int)) (m : Int) (A' : Option Addr) (cap' : Nat) (hs : List (List Int)) (r1 : Int) (r2 : List (List Int)) (r3 : Int) (w : World) (hC : dR.C w A gs.length gs) (hcap : gs.length ≤ cap) (hC' : dR.C w A' hs.length hs) (hcap' : hs.length ≤ cap') (h : some (EitherFamilyF n gs m hs) = some (r1, r2, r3)) :
    Calls Try.prog 38 #[.agg #[.int .i64 n, .slice A gs.length cap], .agg #[.int .i64 m, .slice A' hs.length cap']] w (FamRes w r1 r2 r3) := by
  have h' := Option.some.inj h
  unfold EitherFamilyF at h'
  split at h'
  · rename_i hz
    obtain ⟨rfl, rfl, rfl⟩ : n = r1 ∧ famN n.toNat (eitherP gs hs) = r2 ∧ (0 : Int) = r3 := by simpa using h'
    unfold twoC at hz
    split at hz
    · rename_i hv
      split at hz
      · rename_i e
        subst e
        have hr := hv.1.1
        have := EitherFamily_yes n.toNat (by omega) A cap gs A' cap' hs w hC hcap hC' hcap' (by rw [show ((n.toNat : Nat) : Int) = n by omega]; exact hv.1) (by rw [show ((n.toNat : Nat) : Int) = n by omega]; exact hv.2)
        rwa [show ((n.toNat : Nat) : Int) = n by omega] at this
      · cases hz
    · cases hz
  · rename_i hz
    obtain ⟨rfl, rfl, rfl⟩ : (0 : Int) = r1 ∧ [] = r2 ∧ twoC n gs m hs = r3 := by simpa using h'
    exact EitherFamily_no n A cap gs m A' cap' hs w hC hcap hC' hcap' _ rfl (by revert hz; unfold twoC; split <;> (try split) <;> simp)

set_option maxHeartbeats 2000000 in
theorem BothFamilies_no (n : Int) (A : Option Addr) (cap : Nat) (gs : List (List Int)) (m : Int) (A' : Option Addr) (cap' : Nat) (hs : List (List Int)) (w : World) (hC : dR.C w A gs.length gs) (hcap : gs.length ≤ cap) (hC' : dR.C w A' hs.length hs) (hcap' : hs.length ≤ cap') (z : Int) (hz : twoC n gs m hs = z) (hz0 : z = 1 ∨ z = 2) :
    Calls Try.prog 39 #[.agg #[.int .i64 n, .slice A gs.length cap], .agg #[.int .i64 m, .slice A' hs.length cap']] w (FamRes w 0 [] z) := by
  have hu := Try.underlying27
  have HV := fun W h h' => two_calls n A cap gs m A' cap' hs W h hcap h' hcap'
  rw [hz] at HV
  have HC := Aside0.mk hC
  have HC' := Aside0.mk hC'
  clear hC hC' hz
  have hz12 : z = 1 ∨ z = 2 := hz0
  rcases hz12 with rfl | rfl
  · go_enter Try.func39, Try.ntmps39
    go_wp2_with (go_at_call 88; refine (HV _ (Kd.C_alloc (Kd.C_alloc (Kd.C_alloc HC.out _) _) _) (Kd.C_alloc (Kd.C_alloc (Kd.C_alloc HC'.out _) _) _)).mono ?_; rintro e w1 ⟨rfl, hb1⟩; have HZ := Aside0.mk (blk_below (blk_at (k := w.heap.size + 1 + 1) (by simp)) hb1); have z0 : w1.cell? ⟨w.heap.size + 1 + 1, 0, none⟩ = some (.int .i64 0) := (blk_cell HZ.out 0).trans rfl; have z1 : w1.cell? ⟨w.heap.size + 1 + 1, 1, none⟩ = some (.slice none 0 0) := (blk_cell HZ.out 1).trans rfl; have f0 := blk_frozen HZ.out 0; have f1 := blk_frozen HZ.out 1; have HB := Aside0.mk hb1; clear hb1)
    have p0 := fun a b => put0 (a := a) (b := b) HZ.out
    have p1 := fun a b => put1 (a := a) (b := b) HZ.out
    have h1 : Below w.heap.size w w1 := below_then (below_alloc (below_alloc (below_alloc (Below.refl _ _) _) _) _) (by simp; omega) HB.out
    refine bodyPost_ret (v := .tuple #[.agg #[.int .i64 0, .slice none 0 0], .int .i64 1]) (by simp [results, Try.results39, go_sem, p0, p1]) rfl ⟨_, rfl, S_nil _ _ _ _ _, ?_⟩
    exact below_set (below_set h1 (by omega)) (by omega)
  · go_enter Try.func39, Try.ntmps39
    go_wp2_with (go_at_call 88; refine (HV _ (Kd.C_alloc (Kd.C_alloc (Kd.C_alloc HC.out _) _) _) (Kd.C_alloc (Kd.C_alloc (Kd.C_alloc HC'.out _) _) _)).mono ?_; rintro e w1 ⟨rfl, hb1⟩; have HZ := Aside0.mk (blk_below (blk_at (k := w.heap.size + 1 + 1) (by simp)) hb1); have z0 : w1.cell? ⟨w.heap.size + 1 + 1, 0, none⟩ = some (.int .i64 0) := (blk_cell HZ.out 0).trans rfl; have z1 : w1.cell? ⟨w.heap.size + 1 + 1, 1, none⟩ = some (.slice none 0 0) := (blk_cell HZ.out 1).trans rfl; have f0 := blk_frozen HZ.out 0; have f1 := blk_frozen HZ.out 1; have HB := Aside0.mk hb1; clear hb1)
    have p0 := fun a b => put0 (a := a) (b := b) HZ.out
    have p1 := fun a b => put1 (a := a) (b := b) HZ.out
    have h1 : Below w.heap.size w w1 := below_then (below_alloc (below_alloc (below_alloc (Below.refl _ _) _) _) _) (by simp; omega) HB.out
    refine bodyPost_ret (v := .tuple #[.agg #[.int .i64 0, .slice none 0 0], .int .i64 2]) (by simp [results, Try.results39, go_sem, p0, p1]) rfl ⟨_, rfl, S_nil _ _ _ _ _, ?_⟩
    exact below_set (below_set h1 (by omega)) (by omega)

set_option maxHeartbeats 2000000 in
theorem BothFamilies_yes (n : Nat) (hn : n ≤ 7) (A : Option Addr) (cap : Nat) (gs : List (List Int)) (A' : Option Addr) (cap' : Nat) (hs : List (List Int)) (w : World) (hC : dR.C w A gs.length gs) (hcap : gs.length ≤ cap) (hC' : dR.C w A' hs.length hs) (hcap' : hs.length ≤ cap') (h1 : ValidF n gs) (h2 : ValidF n hs) :
    Calls Try.prog 39 #[.agg #[.int .i64 (n : Int), .slice A gs.length cap], .agg #[.int .i64 (n : Int), .slice A' hs.length cap']] w (FamRes w (n : Int) (famN n (bothP gs hs)) 0) := by
  have eg : ∀ args w, (callFunc 90 args).run Try.prog w = .ok (.enter 90 args) w := enters_of Try.func90 (by kernel_rfl) rfl
  have hu := Try.underlying27
  have h7 : 2 ^ n ≤ 128 := by have := Nat.pow_le_pow_right (n := 2) (by omega) hn; simpa using this
  have HV := fun W h h' => two_calls (n : Int) A cap gs (n : Int) A' cap' hs W h hcap h' hcap'
  rw [show twoC (n : Int) gs (n : Int) hs = 0 from by unfold twoC; rw [if_pos ⟨h1, h2⟩, if_pos rfl]] at HV
  have HF := fun W (h : FamBox W w.heap.size (n : Int) A cap gs ∧ FamBox W (w.heap.size + 1) (n : Int) A' cap' hs) => familyOf_calls n hn 90 #[] #[.pointer (some ⟨w.heap.size, 0, none⟩), .pointer (some ⟨w.heap.size + 1, 0, none⟩)] eg (bothP gs hs) W
    (fun W' c hb hc => both1_calls (n : Int) (n : Int) A A' cap cap' gs hs hcap hcap' (smalls_of h1) (smalls_of h2) w.heap.size (w.heap.size + 1) W' (h.1.later hb) (h.2.later hb) c (by omega))
  have HBX := Aside0.mk (boxes w (n : Int) A cap gs (n : Int) A' cap' hs hC hC')
  have HC := Aside0.mk hC
  have HC' := Aside0.mk hC'
  clear hC hC' h1 h2 h7
  generalize hF : famN n (bothP gs hs) = F at *
  have HFF := Aside0.mk hF
  clear hF
  go_enter Try.func39, Try.ntmps39
  go_wp2_with (first | (go_at_call 88; refine (HV _ (Kd.C_alloc (Kd.C_alloc (Kd.C_alloc HC.out _) _) _) (Kd.C_alloc (Kd.C_alloc (Kd.C_alloc HC'.out _) _) _)).mono ?_; rintro e w1 ⟨rfl, hb1⟩; have HZ := Aside0.mk (blk_below (blk_at (k := w.heap.size + 1 + 1) (by simp)) hb1); have HX := Aside0.mk (HBX.out w1 ((below_then (below_alloc (Below.refl _ _) _) (by simp) hb1).mono (by simp))); have cf0 := HX.out.1.1; have cf1 := HX.out.1.2.1; have HB := Aside0.mk hb1; clear hb1) | (go_at_call 57; refine (HF _ HX.out).mono ?_; rintro e w2 ⟨v2, rfl, hs2, hb2⟩; have HZ2 := Aside0.mk (blk_below HZ.out hb2); have z0 : w2.cell? ⟨w.heap.size + 1 + 1, 0, none⟩ = some (.int .i64 0) := (blk_cell HZ2.out 0).trans rfl; have z1 : w2.cell? ⟨w.heap.size + 1 + 1, 1, none⟩ = some (.slice none 0 0) := (blk_cell HZ2.out 1).trans rfl; have f0 := blk_frozen HZ2.out 0; have f1 := blk_frozen HZ2.out 1; obtain ⟨A2, c2, rfl⟩ := S_slice hs2; have HS := Aside0.mk hs2; have HB2 := Aside0.mk hb2; clear hs2 hb2))
  have p0 := fun a b => put0 (a := a) (b := b) HZ2.out
  have p1 := fun a b => put1 (a := a) (b := b) HZ2.out
  have hsz : w.heap.size ≤ w1.heap.size := by have := HB.out.size; simp at this; omega
  have h1 : Below w.heap.size w w2 := below_then (below_then (below_alloc (below_alloc (below_alloc (Below.refl _ _) _) _) _) (by simp; omega) HB.out) hsz HB2.out
  refine bodyPost_ret (v := .tuple #[.agg #[.int .i64 (n : Int), .slice A2 F.length c2], .int .i64 0]) (by simp [results, Try.results39, go_sem, p0, p1]) rfl ⟨_, rfl, S_put HZ2.out (S_lower HS.out hsz), ?_⟩
  exact below_set (below_set h1 (by omega)) (by omega)

def BothFamiliesF (n : Int) (gs : List (List Int)) (m : Int) (hs : List (List Int)) : Int × List (List Int) × Int := if twoC n gs m hs = 0 then (n, famN n.toNat (bothP gs hs), 0) else (0, [], twoC n gs m hs)
theorem BothFamiliesF_calls (n : Int) (A : Option Addr) (cap : Nat) (gs : List (List Int)) (m : Int) (A' : Option Addr) (cap' : Nat) (hs : List (List Int)) (r1 : Int) (r2 : List (List Int)) (r3 : Int) (w : World) (hC : dR.C w A gs.length gs) (hcap : gs.length ≤ cap) (hC' : dR.C w A' hs.length hs) (hcap' : hs.length ≤ cap') (h : some (BothFamiliesF n gs m hs) = some (r1, r2, r3)) :
    Calls Try.prog 39 #[.agg #[.int .i64 n, .slice A gs.length cap], .agg #[.int .i64 m, .slice A' hs.length cap']] w (FamRes w r1 r2 r3) := by
  have h' := Option.some.inj h
  unfold BothFamiliesF at h'
  split at h'
  · rename_i hz
    obtain ⟨rfl, rfl, rfl⟩ : n = r1 ∧ famN n.toNat (bothP gs hs) = r2 ∧ (0 : Int) = r3 := by simpa using h'
    unfold twoC at hz
    split at hz
    · rename_i hv
      split at hz
      · rename_i e
        subst e
        have hr := hv.1.1
        have := BothFamilies_yes n.toNat (by omega) A cap gs A' cap' hs w hC hcap hC' hcap' (by rw [show ((n.toNat : Nat) : Int) = n by omega]; exact hv.1) (by rw [show ((n.toNat : Nat) : Int) = n by omega]; exact hv.2)
        rwa [show ((n.toNat : Nat) : Int) = n by omega] at this
      · cases hz
    · cases hz
  · rename_i hz
    obtain ⟨rfl, rfl, rfl⟩ : (0 : Int) = r1 ∧ [] = r2 ∧ twoC n gs m hs = r3 := by simpa using h'
    exact BothFamilies_no n A cap gs m A' cap' hs w hC hcap hC' hcap' _ rfl (by revert hz; unfold twoC; split <;> (try split) <;> simp)

end Go.Proofs.Ytmeaffkgnmgmeaa.Lattice
