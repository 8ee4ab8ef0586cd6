/- Contracts of the reference's A2Family and A2FamilyOf: valid families that are drawn from bytes. -/
import Derived.Test.YtmeaffkgnmgmeaaDrawn
import Derived.Test.YtmeaffkgnmgmeaaGx4
namespace Go.Proofs.Ytmeaffkgnmgmeaa.Some
open Go.RowKit Go.Lib Go.Proofs Go.Proofs.YtmeaffkgnmgmeaaW.PrintWords Go.Proofs.YtmeaffkgnmgmeaaW.PrintWords.Kd Go.Proofs.YtmeaffkgnmgmeaaW.PrintLast Go.Proofs.YtmeaffkgnmgmeaaW.PrintMore Go.Proofs.Ytmeaffkgnmgmeaa.G Go.Proofs.Ytmeaffkgnmgmeaa.Fam Go.Proofs.Ytmeaffkgnmgmeaa.Loops Go.Proofs.Ytmeaffkgnmgmeaa.Bits Go.Proofs.Ytmeaffkgnmgmeaa.Sorting Go.Proofs.Ytmeaffkgnmgmeaa.Crowds Go.Proofs.Ytmeaffkgnmgmeaa.Idx Go.Proofs.Ytmeaffkgnmgmeaa.Valid Go.Proofs.Ytmeaffkgnmgmeaa.Opens Go.Proofs.Ytmeaffkgnmgmeaa.FamLaw Go.Proofs.Ytmeaffkgnmgmeaa.Ops Go.Proofs.Ytmeaffkgnmgmeaa.From Go.Proofs.Ytmeaffkgnmgmeaa.Ref Go.Proofs.Ytmeaffkgnmgmeaa.Drawn
set_option linter.unusedVariables false
set_option linter.unusedSimpArgs false

/-! ### what is drawn is valid -/
theorem weightsD_ok (cd : List Int) (hb : Bytes cd) (a s : Int) (h0 : 0 ≤ a) (h1 : a < 2000) : ∀ h : Nat, h ≤ 7 → ∃ ws a' s', weightsD cd h a s = some (ws, a', s') ∧ ws.length = h ∧ (∀ x ∈ ws, 0 ≤ x ∧ x ≤ 4) ∧ 0 ≤ a' ∧ a' ≤ a + h := by
  intro h
  induction h with
  | zero => exact fun _ => ⟨[], a, s, rfl, rfl, by simp, h0, by omega⟩
  | succ h ih =>
    intro hh
    obtain ⟨ws, a', s', e, hl, hx, a0, a1⟩ := ih (by omega)
    obtain ⟨x, a2, s2, e2, x0, x1, a20, a21⟩ := pick_ok cd hb a' s' 5 a0 (by omega) (by omega) (by omega)
    refine ⟨ws ++ [x], a2, s2, ?_, by simp [hl], ?_, a20, by omega⟩
    · show (weightsD cd h a s).bind _ = _
      rw [e]
      show (spec_l00Src_pick.f cd a' s' 5).bind _ = _
      rw [e2]
      rfl
    · intro y hy
      rw [List.mem_append] at hy
      rcases hy with hy | hy
      · exact hx y hy
      · rw [List.mem_singleton] at hy; omega
theorem groupsD_ok (cd : List Int) (hb : Bytes cd) (M : Nat) (hM : 1 ≤ M ∧ M ≤ 128) (a s : Int) (h0 : 0 ≤ a) (h1 : a < 2000) : ∀ j : Nat, j ≤ 7 → ∃ gs a' s', groupsD cd (M : Int) j a s = some (gs, a', s') ∧ (∀ x ∈ gs, ∃ c, c < M ∧ x = groupN c) ∧ 0 ≤ a' ∧ a' ≤ a + j := by
  intro j
  induction j with
  | zero => exact fun _ => ⟨[], a, s, rfl, by simp, h0, by omega⟩
  | succ j ih =>
    intro hh
    obtain ⟨gs, a', s', e, hx, a0, a1⟩ := ih (by omega)
    obtain ⟨x, a2, s2, e2, x0, x1, a20, a21⟩ := pick_ok cd hb a' s' (M : Int) a0 (by omega) (by omega) (by omega)
    refine ⟨gs ++ [groupN x.toNat], a2, s2, ?_, ?_, a20, by omega⟩
    · show (groupsD cd (M : Int) j a s).bind _ = _
      rw [e]
      show (spec_l00Src_pick.f cd a' s' (M : Int)).bind _ = _
      rw [e2]
      rfl
    · intro y hy
      rw [List.mem_append] at hy
      rcases hy with hy | hy
      · exact hx y hy
      · rw [List.mem_singleton] at hy; exact ⟨x.toNat, by omega, hy⟩
theorem drawn_ok (cd : List Int) (hb : Bytes cd) (n : Nat) (hn1 : 1 ≤ n) (hn : n ≤ 7) (a s : Int) (h0 : 0 ≤ a) (h1 : a < 1000) : ∃ gs a' s', drawnF cd n a s = some (gs, a', s') ∧ ValidF (n : Int) gs := by
  have h7 : 2 ^ n ≤ 128 := two_pow_le hn
  obtain ⟨b, a1, s1, e1, a10, a11⟩ := one_ok cd hb a s 4 h0 (by omega) (by omega) (by omega)
  unfold drawnF
  rw [e1]
  simp only [Option.bind_some]
  cases b with
  | true =>
    rw [if_pos rfl]
    obtain ⟨ws, a2, s2, e2, hl, hx, a20, a21⟩ := weightsD_ok cd hb a1 s1 a10 (by omega) n hn
    rw [e2]
    simp only [Option.bind_some]
    have hs := wsum_le ws hx
    obtain ⟨q, a3, s3, e3, _, _, _, _⟩ := pick_ok cd hb a2 s2 (ws.sum + 2) a20 (by omega) (by omega) (by omega)
    rw [e3]
    exact ⟨_, _, _, rfl, famN_valid hn1 hn (weighB_mono n ws q (fun x hx' => by have := hx x hx'; omega))⟩
  | false =>
    rw [if_neg (by simp)]
    obtain ⟨k, a2, s2, e2, k0, k1, a20, a21⟩ := pick_ok cd hb a1 s1 5 a10 (by omega) (by omega) (by omega)
    rw [e2]
    simp only [Option.bind_some]
    obtain ⟨gs, a3, s3, e3, hx, _, _⟩ := groupsD_ok cd hb (2 ^ n) ⟨Nat.one_le_two_pow, h7⟩ a2 s2 a20 (by omega) k.toNat (by omega)
    rw [e3]
    refine ⟨_, _, _, rfl, famN_valid hn1 hn (openN_mono hn fun g hg => ?_)⟩
    obtain ⟨c, hc, rfl⟩ := hx g hg
    exact groupN_is hn hc

/-! ### A2FamilyOf and A2Family -/
instance (l : List Int) : Decidable (Bytes l) := by unfold Bytes; exact inferInstance
def famOfF (cd : List Int) (n : Int) : Option (Int × List (List Int)) := if Bytes cd ∧ 1 ≤ n ∧ n ≤ 7 then (drawnF cd n.toNat 0 0).map fun r => (n, r.1) else none
def famF (cd : List Int) : Option (Int × List (List Int)) := if Bytes cd then (spec_l00Src_pick.f cd 0 0 5).bind fun t => (drawnF cd (1 + t.1).toNat t.2.1 t.2.2).map fun r => (1 + t.1, r.1) else none
theorem famOfF_ok (cd : List Int) (hb : Bytes cd) (n : Int) (h1 : 1 ≤ n) (h7 : n ≤ 7) : ∃ gs, famOfF cd n = some (n, gs) ∧ ValidF n gs := by
  obtain ⟨gs, a', s', e, hv⟩ := drawn_ok cd hb n.toNat (by omega) (by omega) 0 0 (by omega) (by omega)
  unfold famOfF
  rw [if_pos ⟨hb, h1, h7⟩, e]
  refine ⟨gs, rfl, ?_⟩
  rwa [show ((n.toNat : Nat) : Int) = n by omega] at hv
theorem famF_ok (cd : List Int) (hb : Bytes cd) : ∃ n gs, famF cd = some (n, gs) ∧ 1 ≤ n ∧ n ≤ 5 ∧ ValidF n gs := by
  obtain ⟨x, a2, s2, e2, x0, x1, a20, a21⟩ := pick_ok cd hb 0 0 5 (by omega) (by omega) (by omega) (by omega)
  obtain ⟨gs, a', s', e, hv⟩ := drawn_ok cd hb (1 + x).toNat (by omega) (by omega) a2 s2 a20 (by omega)
  unfold famF
  rw [if_pos hb, e2]
  simp only [Option.bind_some]
  rw [e]
  refine ⟨1 + x, gs, rfl, by omega, by omega, ?_⟩
  rwa [show (((1 + x).toNat : Nat) : Int) = 1 + x by omega] at hv

set_option maxHeartbeats 2000000 in
set_option maxRecDepth 100000 in
theorem some_calls (cd : List Int) (hbytes : Bytes cd) (g : Nat) (w0 w : World) (hI : IsS104 w0 w g cd 0 0) (hB : Below w0.heap.size w0 w) (X : Nat → Prop) (hxg : ∀ x, X x → x ≠ g) (hV : ∀ x, X x → w.heap[x]? = some (.cells #[.int .i64 0, .slice none 0 0] 27 (0, 0))) (r1 : Int) (r2 : List (List Int)) (h : famF cd = some (r1, r2)) :
    Calls Try.prog 87 #[.pointer (some ⟨g, 0, none⟩)] w fun e w' => ∃ v, e = .returned (.agg #[.int .i64 r1, v]) ∧ Kd.S dR 30 w' w0.heap.size (fun _ => True) v r2 ∧ Below w0.heap.size w0 w' ∧ ∀ x, X x → w'.heap[x]? = some (.cells #[.int .i64 0, .slice none 0 0] 27 (0, 0)) := by
  have hu := Try.underlying27
  obtain ⟨x, a2, s2, e2, y0, y1, a20, a21⟩ := pick_ok cd hbytes 0 0 5 (by omega) (by omega) (by omega) (by omega)
  obtain ⟨n, hn⟩ : ∃ n : Nat, 1 + x = (n : Int) := ⟨(1 + x).toNat, by omega⟩
  obtain ⟨gs, a', s', e3, hv⟩ := drawn_ok cd hbytes n (by omega) (by omega) a2 s2 a20 (by omega)
  unfold famF at h
  rw [if_pos hbytes, e2] at h
  simp only [Option.bind_some] at h
  rw [hn, Int.toNat_natCast, e3] at h
  obtain ⟨rfl, rfl⟩ : (n : Int) = r1 ∧ gs = r2 := by simpa using h
  have HP := fun W hi hb => spec_l00Src_pick.calls g cd 0 0 5 x a2 s2 w0 W hi hb e2
  have HDR := fun W hi hb X hxg hV => drawn_calls cd hbytes g a2 s2 a20 (by omega) n (by omega) (by omega) w0 W hi hb X hxg hV
  have hgw : g < w.heap.size := hI.lt
  have hsz0 : w0.heap.size ≤ w.heap.size := hB.size
  have HI := Aside0.mk hI
  have HB := Aside0.mk hB
  have HXW := Aside0.mk (fun x hx => blk_lt (hV x hx))
  have HXG := Aside0.mk hxg
  have HV0 := Aside0.mk hV
  have HE3 := Aside0.mk e3
  clear hI hB hxg hV h e2 e3 hv hbytes
  go_enter Try.func87, Try.ntmps87
  go_wp2_with (first | (go_at_call 108; refine (HP _ (HI.out.alloc _) (HB.out.alloc (by simpa using hsz0) _)).mono ?_; rintro e w1 ⟨rfl, hi, hb, hk⟩; have HI1 := Aside0.mk hi; have HB1 := Aside0.mk hb; have HZ := Aside0.mk (hk.blk (blk_at (k := w.heap.size) rfl) (by omega) (by simp)); have HV := Aside0.mk (fun x hx => hk.blk (blk_alloc (HV0.out x hx) _) (HXG.out x hx) (by simp)); clear hi hb hk) | (go_at_call 68; refine (HDR _ HI1.out HB1.out (fun x => X x ∨ x = w.heap.size) (fun x hx => hx.elim (HXG.out x) (fun e => by rw [e]; omega)) (fun x hx => hx.elim (HV.out x) (fun e => by rw [e]; exact HZ.out))).mono ?_; rintro e w2 ⟨v2, gs2, a2', s2', rfl, hd2, hs2, hi2, _, _, hb2, hv2⟩; have HZ4 := Aside0.mk (hv2 w.heap.size (.inr rfl)); have HV4 := Aside0.mk (fun x hx => hv2 x (.inl hx)); have z0 : w2.cell? ⟨w.heap.size, 0, none⟩ = some (.int .i64 0) := (blk_cell HZ4.out 0).trans rfl; have z1 : w2.cell? ⟨w.heap.size, 1, none⟩ = some (.slice none 0 0) := (blk_cell HZ4.out 1).trans rfl; have f0 := blk_frozen HZ4.out 0; have f1 := blk_frozen HZ4.out 1; obtain ⟨A8, c8, rfl⟩ := S_slice hs2; obtain rfl : gs = gs2 := (Prod.mk.inj (Option.some.inj (HE3.out.symm.trans hd2))).1; have HS8 := Aside0.mk hs2; have HB4 := Aside0.mk hb2; clear hs2 hb2 hv2 hi2 hd2))
  have p0 := fun a b => put0 (a := a) (b := b) HZ4.out
  have p1 := fun a b => put1 (a := a) (b := b) HZ4.out
  refine bodyPost_ret (v := .agg #[.int .i64 (n : Int), .slice A8 gs.length c8]) (by simp [results, Try.results87, go_sem, p0, p1]) rfl ⟨_, rfl, S_put HZ4.out HS8.out, below_set (below_set HB4.out hsz0) hsz0, ?_⟩
  intro x hx
  have hxw := HXW.out x hx
  rw [Below.heap_setCell _ _ _ _ (by simp; omega), Below.heap_setCell _ _ _ _ (by simp; omega)]
  exact HV4.out x hx

/-- The two ways to draw, from bytes alone. -/
theorem from0 (cd : List Int) : spec_l00From.f cd = some (cd, 0, 0) := rfl
set_option maxHeartbeats 2000000 in
set_option maxRecDepth 100000 in
theorem A2Family_calls (A : Option Addr) (c : Nat) (cd : List Int) (r1 : Int) (r2 : List (List Int)) (w : World) (hC : Kd.C (Kd.int .u8) w A cd.length cd) (hc : cd.length ≤ c) (h : famF cd = some (r1, r2)) :
    Calls Try.prog 37 #[.slice A cd.length c] w fun e w' => ∃ v, e = .returned (.agg #[.int .i64 r1, v]) ∧ Kd.S dR 30 w' w.heap.size (fun _ => True) v r2 ∧ Below w.heap.size w w' := by
  have hu := Try.underlying27
  have hbytes : Bytes cd := by
    unfold famF at h
    split at h
    · assumption
    · cases h
  have HF := fun w0 W hb hr => spec_l00From.calls A c cd cd 0 0 w0 W hb hr hc (from0 cd)
  have HSM := fun g w0 W hI hB X hxg hV => some_calls cd hbytes g w0 W hI hB X hxg hV r1 r2 h
  have HC := Aside0.mk hC
  clear hC hbytes h
  go_enter Try.func37, Try.ntmps37
  go_wp2_with (first | (go_at_call 69; refine (HF _ _ (Below.refl _ _) (Kd.C_alloc HC.out _)).mono ?_; rintro e w1 ⟨g, rfl, hi1, hb1, _⟩; have HG := Aside0.mk hi1; have HZ := Aside0.mk (blk_below (blk_at (k := w.heap.size) (W := w) rfl) hb1); have HB1 := Aside0.mk hb1; clear hi1 hb1) | (go_at_call 87; refine (HSM _ _ _ HG.out HB1.out (fun x => x = w.heap.size) (fun x hx => by rw [hx]; have := HG.out.ge; simp at this; omega) (fun x hx => by rw [hx]; exact HZ.out)).mono ?_; rintro e w2 ⟨v2, rfl, hs2, hb2, hv2⟩; have HZ4 := Aside0.mk (hv2 w.heap.size rfl); have z0 : w2.cell? ⟨w.heap.size, 0, none⟩ = some (.int .i64 0) := (blk_cell HZ4.out 0).trans rfl; have z1 : w2.cell? ⟨w.heap.size, 1, none⟩ = some (.slice none 0 0) := (blk_cell HZ4.out 1).trans rfl; have f0 := blk_frozen HZ4.out 0; have f1 := blk_frozen HZ4.out 1; obtain ⟨A8, c8, rfl⟩ := S_slice hs2; have HS8 := Aside0.mk hs2; have HB4 := Aside0.mk hb2; clear hs2 hb2 hv2))
  have p0 := fun a b => put0 (a := a) (b := b) HZ4.out
  have p1 := fun a b => put1 (a := a) (b := b) HZ4.out
  have h1 : Below w.heap.size w w2 := below_then (B := w.heap.size) (below_alloc (Below.refl _ _) _) (by simp) (HB4.out.mono (by simp))
  refine bodyPost_ret (v := .agg #[.int .i64 r1, .slice A8 r2.length c8]) (by simp [results, Try.results37, go_sem, p0, p1]) rfl ⟨_, rfl, S_put HZ4.out (S_lower HS8.out (by simp)), below_set (below_set h1 (Nat.le_refl _)) (Nat.le_refl _)⟩

set_option maxHeartbeats 2000000 in
set_option maxRecDepth 100000 in
theorem A2FamilyOf_calls (A : Option Addr) (c : Nat) (cd : List Int) (n : Int) (r1 : Int) (r2 : List (List Int)) (w : World) (hC : Kd.C (Kd.int .u8) w A cd.length cd) (hc : cd.length ≤ c) (h : famOfF cd n = some (r1, r2)) :
    Calls Try.prog 23 #[.slice A cd.length c, .int .i64 n] w fun e w' => ∃ v, e = .returned (.agg #[.int .i64 r1, v]) ∧ Kd.S dR 30 w' w.heap.size (fun _ => True) v r2 ∧ Below w.heap.size w w' := by
  have hu := Try.underlying27
  unfold famOfF at h
  split at h
  · rename_i hh
    obtain ⟨hbytes, hn1, hn7⟩ := hh
    obtain ⟨m, rfl⟩ : ∃ m : Nat, n = (m : Int) := ⟨n.toNat, by omega⟩
    obtain ⟨gs, a', s', e3, hv⟩ := drawn_ok cd hbytes m (by omega) (by omega) 0 0 (by omega) (by omega)
    rw [Int.toNat_natCast, e3] at h
    obtain ⟨rfl, rfl⟩ : (m : Int) = r1 ∧ gs = r2 := by simpa using h
    have HF := fun w0 W hb hr => spec_l00From.calls A c cd cd 0 0 w0 W hb hr hc (from0 cd)
    have HSM := fun g w0 W hI hB X hxg hV => drawn_calls cd hbytes g 0 0 (by omega) (by omega) m (by omega) (by omega) w0 W hI hB X hxg hV
    have HC := Aside0.mk hC
    have HE3 := Aside0.mk e3
    clear hC hbytes h e3 hv
    go_enter Try.func23, Try.ntmps23
    go_wp2_with (first | (go_at_call 69; refine (HF _ _ (Below.refl _ _) (Kd.C_alloc HC.out _)).mono ?_; rintro e w1 ⟨g, rfl, hi1, hb1, _⟩; have HG := Aside0.mk hi1; have HZ := Aside0.mk (blk_below (blk_at (k := w.heap.size) (W := w) rfl) hb1); have HB1 := Aside0.mk hb1; clear hi1 hb1) | (go_at_call 68; refine (HSM _ _ _ HG.out HB1.out (fun x => x = w.heap.size) (fun x hx => by rw [hx]; have := HG.out.ge; simp at this; omega) (fun x hx => by rw [hx]; exact HZ.out)).mono ?_; rintro e w2 ⟨v2, gs2, a2', s2', rfl, hd2, hs2, hi2, _, _, hb2, hv2⟩; have HZ4 := Aside0.mk (hv2 w.heap.size rfl); have z0 : w2.cell? ⟨w.heap.size, 0, none⟩ = some (.int .i64 0) := (blk_cell HZ4.out 0).trans rfl; have z1 : w2.cell? ⟨w.heap.size, 1, none⟩ = some (.slice none 0 0) := (blk_cell HZ4.out 1).trans rfl; have f0 := blk_frozen HZ4.out 0; have f1 := blk_frozen HZ4.out 1; obtain ⟨A8, c8, rfl⟩ := S_slice hs2; obtain rfl : gs = gs2 := (Prod.mk.inj (Option.some.inj (HE3.out.symm.trans hd2))).1; have HS8 := Aside0.mk hs2; have HB4 := Aside0.mk hb2; clear hs2 hb2 hv2 hi2 hd2))
    have p0 := fun a b => put0 (a := a) (b := b) HZ4.out
    have p1 := fun a b => put1 (a := a) (b := b) HZ4.out
    have h1 : Below w.heap.size w w2 := below_then (B := w.heap.size) (below_alloc (Below.refl _ _) _) (by simp) (HB4.out.mono (by simp))
    refine bodyPost_ret (v := .agg #[.int .i64 (m : Int), .slice A8 gs.length c8]) (by simp [results, Try.results23, go_sem, p0, p1]) rfl ⟨_, rfl, S_put HZ4.out (S_lower HS8.out (by simp)), below_set (below_set h1 (Nat.le_refl _)) (Nat.le_refl _)⟩
  · cases h

end Go.Proofs.Ytmeaffkgnmgmeaa.Some
