/- Contract of the reference's l01Drawn: a valid family, drawn from bytes. -/
import Derived.Test.YtmeaffkgnmgmeaaRef
import Derived.Outline
namespace Go.Proofs.Ytmeaffkgnmgmeaa.Drawn
open Go.RowKit Go.Lib Go.Proofs Go.Proofs.YtmeaffkgnmgmeaaW.PrintWords Go.Proofs.YtmeaffkgnmgmeaaW.PrintWords.Kd Go.Proofs.YtmeaffkgnmgmeaaW.PrintLast Go.Proofs.YtmeaffkgnmgmeaaW.PrintMore Go.Proofs.Ytmeaffkgnmgmeaa.G Go.Proofs.Ytmeaffkgnmgmeaa.Fam Go.Proofs.Ytmeaffkgnmgmeaa.Loops Go.Proofs.Ytmeaffkgnmgmeaa.Bits Go.Proofs.Ytmeaffkgnmgmeaa.Sorting Go.Proofs.Ytmeaffkgnmgmeaa.Crowds Go.Proofs.Ytmeaffkgnmgmeaa.Idx Go.Proofs.Ytmeaffkgnmgmeaa.Valid Go.Proofs.Ytmeaffkgnmgmeaa.Opens Go.Proofs.Ytmeaffkgnmgmeaa.FamLaw Go.Proofs.Ytmeaffkgnmgmeaa.Ops Go.Proofs.Ytmeaffkgnmgmeaa.From Go.Proofs.Ytmeaffkgnmgmeaa.Ref
set_option linter.unusedVariables false
set_option linter.unusedSimpArgs false

/-! ### what is drawn, as plain functions over the source's pick -/
def weightsD (cd : List Int) : Nat → Int → Int → Option (List Int × Int × Int)
  | 0, a, s => some ([], a, s)
  | h + 1, a, s => (weightsD cd h a s).bind fun t => (spec_l00Src_pick.f cd t.2.1 t.2.2 5).bind fun x => some (t.1 ++ [x.1], x.2.1, x.2.2)
def groupsD (cd : List Int) (m : Int) : Nat → Int → Int → Option (List (List Int) × Int × Int)
  | 0, a, s => some ([], a, s)
  | j + 1, a, s => (groupsD cd m j a s).bind fun t => (spec_l00Src_pick.f cd t.2.1 t.2.2 m).bind fun x => some (t.1 ++ [groupN x.1.toNat], x.2.1, x.2.2)
def drawnF (cd : List Int) (n : Nat) (a s : Int) : Option (List (List Int) × Int × Int) :=
  (spec_l00Src_one.f cd a s 4).bind fun b => if b.1 = true then (weightsD cd n b.2.1 b.2.2).bind fun t => (spec_l00Src_pick.f cd t.2.1 t.2.2 (t.1.sum + 2)).bind fun q => some (famN n (weighB t.1 q.1), q.2.1, q.2.2)
    else (spec_l00Src_pick.f cd b.2.1 b.2.2 5).bind fun k => (groupsD cd ((2 ^ n : Nat) : Int) k.1.toNat k.2.1 k.2.2).bind fun t => some (famN n (openN t.1), t.2.1, t.2.2)

theorem int_info : (Try.prog.info? 2).map (fun i => (i.zero, i.size, i.bytes)) = some (some (.int .i64 0), 1, 8) := by kernel_rfl
theorem int_at {w : World} {A : Option Addr} {l : List Int} (h : Kd.C (Kd.int .i64) w A l.length l) {i : Nat} (hi : i < l.length) : ∃ ad, A = some ad ∧ w.cell? (ad.add i) = some (.int .i64 (l.getD i 0)) := by
  obtain ⟨ad, v, e, hc, hK⟩ := elem_at (d := Kd.int .i64) rfl h i hi
  refine ⟨ad, e, ?_⟩
  have h2 : [v] = [Value.int .i64 l[i]] := hK
  have : v = .int .i64 l[i] := by simpa using h2
  rw [hc, this]
  simp [List.getD, hi]
theorem w2_all : ∀ n : Fin 8, wrap64 (2 ^ n.val) = ((2 ^ n.val : Nat) : Int) := by decide +kernel
/-- A new empty row of numbers. -/
theorem R_empty (w : World) (base : Nat) (hb : base ≤ w.heap.size) : Kd.R (Kd.int .i64) 2 (w.alloc (.cells #[] 2)) base (fun _ => True) (.slice (some ⟨w.heap.size, 0, none⟩) 0 0) [] :=
  ⟨fun _ _ => trivial, [], ⟨by simp, .inr ⟨w.heap.size, 0, #[], rfl, hb, heap_alloc_new w _, Nat.le_refl _, Nat.zero_le _, by simp, by simp⟩⟩, Reps.none _ _⟩

set_option maxHeartbeats 4000000 in
set_option maxRecDepth 100000 in
theorem drawn_calls (cd : List Int) (hbytes : Bytes cd) (g : Nat) (a0 s0 : Int) (h0 : 0 ≤ a0) (h1 : a0 < 1000) (n : Nat) (hn1 : 1 ≤ n) (hn : n ≤ 7) (w0 w : World) (hI : IsS104 w0 w g cd a0 s0) (hB : Below w0.heap.size w0 w) (X : Nat → Prop) (hxg : ∀ x, X x → x ≠ g) (hV : ∀ x, X x → w.heap[x]? = some (.cells #[.int .i64 0, .slice none 0 0] 27 (0, 0))) :
    Calls Try.prog 68 #[.pointer (some ⟨g, 0, none⟩), .int .i64 (n : Int)] w fun e w' => ∃ v gs a' s', e = .returned (.agg #[.int .i64 (n : Int), v]) ∧ drawnF cd n a0 s0 = some (gs, a', s') ∧ Kd.S dR 30 w' w0.heap.size (fun _ => True) v gs ∧ IsS104 w0 w' g cd a' s' ∧ 0 ≤ a' ∧ a' ≤ a0 + 20 ∧ Below w0.heap.size w0 w' ∧ ∀ x, X x → w'.heap[x]? = some (.cells #[.int .i64 0, .slice none 0 0] 27 (0, 0)) := by
  have hu := Try.underlying27
  obtain ⟨b, a1, s1, e1, a10, a11⟩ := one_ok cd hbytes a0 s0 4 h0 (by omega) (by omega) (by omega)
  have hgw : g < w.heap.size := hI.lt
  have hsz0 : w0.heap.size ≤ w.heap.size := hB.size
  have HXW := Aside0.mk (fun x hx => blk_lt (hV x hx))
  have HXG := Aside0.mk hxg
  clear hxg
  have HV0 := Aside0.mk hV
  clear hV
  have HBY := Aside0.mk hbytes
  have HI := Aside0.mk hI
  have HB := Aside0.mk hB
  have HONE := fun W hi hb => spec_l00Src_one.calls g cd a0 s0 4 b a1 s1 w0 W hi hb e1
  have HD : Aside0 (drawnF cd n a0 s0 = if b = true then (weightsD cd n a1 s1).bind fun t => (spec_l00Src_pick.f cd t.2.1 t.2.2 (t.1.sum + 2)).bind fun q => some (famN n (weighB t.1 q.1), q.2.1, q.2.2)
    else (spec_l00Src_pick.f cd a1 s1 5).bind fun k => (groupsD cd ((2 ^ n : Nat) : Int) k.1.toNat k.2.1 k.2.2).bind fun t => some (famN n (openN t.1), t.2.1, t.2.2)) := ⟨by unfold drawnF; rw [e1]; rfl⟩
  clear hI hB hbytes e1
  cases b with
  | true =>
    go_enter Try.func68, Try.ntmps68
    go_wp2_with (go_at_call 74; refine (HONE _ (HI.out.alloc _) (HB.out.alloc (by simpa using hsz0) _)).mono ?_; rintro e w1 ⟨rfl, hi, hb, hk⟩; have HI1 := Aside0.mk hi; have HB1 := Aside0.mk hb; have HZ := Aside0.mk (hk.blk (blk_at (k := w.heap.size) rfl) (by omega) (by simp)); have HV := Aside0.mk (fun x (hx : X x) => hk.blk (blk_alloc (HV0.out x hx) _) (HXG.out x hx) (by simp)); clear hi hb hk)
    go_loopg [5, 6, 7] n (fun gg v5 v6 v7 wr => ∃ (h : Nat) (ws : List Int) (a s : Int) (u : Value), h ≤ n ∧ n - h ≤ gg ∧ v7 = .int .i64 (h : Int) ∧ u = v5 ∧ v6 = .int .i64 ws.sum ∧ Aside0 (weightsD cd h a1 s1 = some (ws, a, s)) ∧ Aside0 (ws.length = h) ∧ Aside0 (∀ x ∈ ws, 0 ≤ x ∧ x ≤ 4) ∧ Aside0 (0 ≤ a ∧ a ≤ a1 + h) ∧ Aside0 (Kd.R (Kd.int .i64) 2 wr w0.heap.size (fun _ => True) u ws) ∧ Aside0 (IsS104 w0 wr g cd a s) ∧ Aside0 (Below w0.heap.size w0 wr) ∧ Aside0 (wr.heap[w.heap.size]? = some (.cells #[.int .i64 0, .slice none 0 0] 27 (0, 0))) ∧ Aside0 (∀ x, X x → wr.heap[x]? = some (.cells #[.int .i64 0, .slice none 0 0] 27 (0, 0))))
    case atStart => exact ⟨0, [], a1, s1, _, Nat.zero_le _, by omega, rfl, rfl, rfl, ⟨rfl⟩, ⟨rfl⟩, ⟨by simp⟩, ⟨by omega⟩, ⟨R_empty _ _ HB1.out.size⟩, ⟨HI1.out.alloc _⟩, ⟨HB1.out.alloc HB1.out.size _⟩, ⟨blk_alloc HZ.out _⟩, ⟨fun x hx => blk_alloc (HV.out x hx) _⟩⟩
    case round =>
      obtain ⟨h, ws, a, s, u, hhn, hgg, rfl, rfl, rfl, HW, HL, HX, HA, HR, HI2, HB2, HZ2, HV2⟩ := hrel
      have hab := HA.out
      have hsum := wsum_le ws HX.out
      rw [HL.out] at hsum
      by_cases hlt : h < n
      · have hltz : (h : Int) < (n : Int) := by omega
        obtain ⟨x, a2, s2, e2, x0, x1, a20, a21⟩ := pick_ok cd HBY.out a s 5 hab.1 (by omega) (by omega) (by omega)
        have HP := fun W hi hb => spec_l00Src_pick.calls g cd a s 5 x a2 s2 w0 W hi hb e2
        have HE2 := Aside0.mk e2
        obtain ⟨ys, hys⟩ : ∃ ys, ys = ws ++ [x] := ⟨_, rfl⟩
        have hyl : ys.length = h + 1 := by rw [hys]; simp [HL.out]
        have hyx : ys.getD h 0 = x := by rw [hys]; simp [List.getD, HL.out]
        have hysum : ys.sum = ws.sum + x := by rw [hys]; simp
        have hyz : (h : Int) < (ys.length : Int) := by rw [hyl]; omega
        have HYS := Aside0.mk hys
        have HYL := Aside0.mk hyl
        have HYX := Aside0.mk hyx
        have HYSUM := Aside0.mk hysum
        clear e2 hys hyl hyx hysum
        generalize ws.sum = sm at *
        have hlw : ws.length ≤ 7 := by have := HL.out; omega
        have HLW := Aside0.mk hlw
        clear hlw
        go_wp2_with (first | (go_at_call 108; refine (HP _ HI2.out HB2.out).mono ?_; rintro e w2 ⟨rfl, hi, hb, hk⟩; have HI3 := Aside0.mk hi; have HB3 := Aside0.mk hb; have HZ3 := Aside0.mk (hk.blk HZ2.out (by omega) (by simp)); have HV3 := Aside0.mk (fun x (hx : X x) => hk.blk (HV2.out x hx) (HXG.out x hx) (by simp)); have HR3 := Aside0.mk (R_mono (R_keep (IsS104.apart HI2.out HR.out (by decide)) hk (fun _ h => h.2)) (fun _ h => h.1)); clear hi hb hk) | (at_builtin; refine R_append (Kd.int .i64) (w0 := w0) (W := w2) w0.heap.size rfl (.tmp 19) (.tmp 22) 30 2 (.int .i64 0) 8 rfl Try.underlying30 int_info rfl (by decide) (by decide) u ws x [.int .i64 x] (fun _ => True) (fun _ => False) rfl rfl rfl (fun _ hk => hk.elim) (fun _ _ => trivial) HR3.out HB3.out HB3.out.size ?hl ?_; (case hl => have := HLW.out; omega); intro v3 w3 hR4 hB4 hg4 hat4; rw [← HYS.out] at hR4; have HI4 := Aside0.mk (IsS104.grown HI3.out hg4 (IsS104.own_ne HI3.out HR3.out (by decide))); have HZ4 := Aside0.mk (blk_grown HZ3.out hg4 (R_ne HR3.out HZ3.out (by decide))); have HV4 := Aside0.mk (fun x (hx : X x) => blk_grown (HV3.out x hx) hg4 (R_ne HR3.out (HV3.out x hx) (by decide))); have HR4 := Aside0.mk hR4; obtain ⟨A4, c4, rfl, hlc4, hC4⟩ := R_reads hR4; obtain ⟨ad4, rfl, hcell4⟩ := int_at hC4 (i := h) (by rw [HYL.out]; omega); rw [HYX.out] at hcell4; have HB4 := Aside0.mk hB4; clear hR4 hB4 hg4 hat4))
        go_roundg (n - (h + 1))
        case measure => omega
        case rel =>
          refine ⟨h + 1, ys, a2, s2, _, by omega, by omega, by go_num, rfl, by rw [HYSUM.out], ⟨?_⟩, HYL, ⟨?_⟩, ⟨by omega⟩, HR4, HI4, HB4, HZ4, HV4⟩
          · rw [HYS.out]
            show (weightsD cd h a1 s1).bind _ = _
            rw [HW.out]
            show (spec_l00Src_pick.f cd a s 5).bind _ = _
            rw [HE2.out]
            rfl
          · intro y hy
            rw [HYS.out, List.mem_append] at hy
            rcases hy with hy | hy
            · exact HX.out y hy
            · rw [List.mem_singleton] at hy; omega
      · have hltz : ¬ (h : Int) < (n : Int) := by omega
        obtain rfl : h = n := by omega
        obtain ⟨q, a2, s2, e2, q0, q1, a20, a21⟩ := pick_ok cd HBY.out a s (ws.sum + 2) hab.1 (by omega) (by omega) (by omega)
        have HP := fun W hi hb => spec_l00Src_pick.calls g cd a s (ws.sum + 2) q a2 s2 w0 W hi hb e2
        obtain ⟨kk, hkk⟩ := (weighted_is ws q (by rw [HL.out]; exact hn) (fun x hx => by have := HX.out x hx; omega)).rounds
        have HWC := fun A c W hC hc => spec_l01Weighted.calls kk A c ws q _ _ W hC hc hkk
        rw [HL.out] at HWC
        have HF : Aside0 (drawnF cd h a0 s0 = some (famN h (weighB ws q), a2, s2)) := ⟨by
          rw [HD.out, if_pos trivial, HW.out]
          show (spec_l00Src_pick.f cd a s (ws.sum + 2)).bind _ = _
          rw [e2]
          rfl⟩
        clear e2 hkk
        generalize ws.sum = sm at *
        generalize hFF : famN h (weighB ws q) = F at *
        clear hFF
        go_wp2_with (first | (go_at_call 108; refine (HP _ HI2.out HB2.out).mono ?_; rintro e w2 ⟨rfl, hi, hb, hk⟩; have HI3 := Aside0.mk hi; have HB3 := Aside0.mk hb; have HZ3 := Aside0.mk (hk.blk HZ2.out (by omega) (by simp)); have HV3 := Aside0.mk (fun x (hx : X x) => hk.blk (HV2.out x hx) (HXG.out x hx) (by simp)); have HR3 := Aside0.mk (R_mono (R_keep (IsS104.apart HI2.out HR.out (by decide)) hk (fun _ h => h.2)) (fun _ h => h.1)); have hrd := R_reads HR3.out; rw [HL.out] at hrd; obtain ⟨A3, c3, rfl, hlc3, hC3⟩ := hrd; have HC3 := Aside0.mk hC3; have HLC3 := Aside0.mk hlc3; clear hi hb hk hC3 hlc3) | (go_at_call 109; refine (HWC _ _ _ HC3.out HLC3.out).mono ?_; rintro e w3 ⟨v3, rfl, hs3, hb3⟩; have HZ4 := Aside0.mk (blk_below HZ3.out hb3); have HV4 := Aside0.mk (fun x (hx : X x) => blk_below (HV3.out x hx) hb3); have z0 : w3.cell? ⟨w.heap.size, 0, none⟩ = some (.int .i64 0) := (blk_cell HZ4.out 0).trans rfl; have z1 : w3.cell? ⟨w.heap.size, 1, none⟩ = some (.slice none 0 0) := (blk_cell HZ4.out 1).trans rfl; have f0 := blk_frozen HZ4.out 0; have f1 := blk_frozen HZ4.out 1; obtain ⟨A5, c5, rfl⟩ := S_slice hs3; have HS := Aside0.mk hs3; have HI4 := Aside0.mk (HI3.out.below hb3); have HB4 := Aside0.mk (below_then HB3.out HB3.out.size hb3); clear hs3 hb3))
        have p0 := fun a b => put0 (a := a) (b := b) HZ4.out
        have p1 := fun a b => put1 (a := a) (b := b) HZ4.out
        refine bodyPost_ret (v := .agg #[.int .i64 (h : Int), .slice A5 F.length c5]) (by simp [results, Try.results68, go_sem, p0, p1]) rfl ⟨_, _, _, _, rfl, HF.out, S_put HZ4.out (S_lower HS.out HB3.out.size), ?_, a20, by omega, below_set (below_set HB4.out hsz0) hsz0, ?_⟩
        · exact (HI4.out.far (by simp; omega) _).far (by simp; omega) _
        · intro x hx; have hxw := HXW.out x hx; rw [Below.heap_setCell _ _ _ _ (by simp; omega), Below.heap_setCell _ _ _ _ (by simp; omega)]; exact HV4.out x hx
  | false =>
    obtain ⟨k, ak, sk, ek, k0, k1, ak0, ak1⟩ := pick_ok cd HBY.out a1 s1 5 a10 (by omega) (by omega) (by omega)
    have HPK := fun W hi hb => spec_l00Src_pick.calls g cd a1 s1 5 k ak sk w0 W hi hb ek
    have HEK := Aside0.mk ek
    clear ek
    have hut := Try.underlying25
    have h7 : 2 ^ n ≤ 128 := two_pow_le hn
    have hpos : 1 ≤ 2 ^ n := Nat.one_le_two_pow
    have hsh : wrap64 (2 ^ n) = ((2 ^ n : Nat) : Int) := w2_all ⟨n, by omega⟩
    generalize hM : 2 ^ n = M at *
    have HM := Aside0.mk hM
    clear hM
    go_enter Try.func68, Try.ntmps68
    go_wp2_with (first | (go_at_call 74; refine (HONE _ (HI.out.alloc _) (HB.out.alloc (by simpa using hsz0) _)).mono ?_; rintro e w1 ⟨rfl, hi, hb, hk⟩; have HI1 := Aside0.mk hi; have HB1 := Aside0.mk hb; have HZ := Aside0.mk (hk.blk (blk_at (k := w.heap.size) rfl) (by omega) (by simp)); have HV := Aside0.mk (fun x (hx : X x) => hk.blk (blk_alloc (HV0.out x hx) _) (HXG.out x hx) (by simp)); clear hi hb hk) | (go_at_call 108; refine (HPK _ (HI1.out.alloc _) (HB1.out.alloc HB1.out.size _)).mono ?_; rintro e w2 ⟨rfl, hi, hb, hk⟩; have HI2 := Aside0.mk hi; have HB2 := Aside0.mk hb; have HZ2 := Aside0.mk (hk.blk (blk_alloc HZ.out _) (by omega) (by simp)); have HV2 := Aside0.mk (fun x (hx : X x) => hk.blk (blk_alloc (HV.out x hx) _) (HXG.out x hx) (by simp)); have HS2 := Aside0.mk (S_keep (S_mono (IsS104.apartS (HI1.out.alloc _) (S_empty dR 30 w1 w0.heap.size HB1.out.size) (by decide)) (fun _ h => h)) hk (fun _ h => h.2)); clear hi hb hk))
    go_loopg [8, 9] k.toNat (fun gg v8 v9 wr => ∃ (j : Nat) (gs : List (List Int)) (a s : Int) (u : Value), (j : Int) ≤ k ∧ k.toNat - j ≤ gg ∧ v9 = .int .i64 (k - j) ∧ u = v8 ∧ Aside0 (groupsD cd (M : Int) j ak sk = some (gs, a, s)) ∧ Aside0 (gs.length = j) ∧ Aside0 (∀ x ∈ gs, ∃ c, c < M ∧ x = groupN c) ∧ Aside0 (0 ≤ a ∧ a ≤ ak + j) ∧ Aside0 (Kd.S dR 30 wr w0.heap.size (fun _ => True) u gs) ∧ Aside0 (IsS104 w0 wr g cd a s) ∧ Aside0 (Below w0.heap.size w0 wr) ∧ Aside0 (wr.heap[w.heap.size]? = some (.cells #[.int .i64 0, .slice none 0 0] 27 (0, 0))) ∧ Aside0 (∀ x, X x → wr.heap[x]? = some (.cells #[.int .i64 0, .slice none 0 0] 27 (0, 0))))
    case atStart => exact ⟨0, [], ak, sk, _, by omega, by omega, by simp, rfl, ⟨rfl⟩, ⟨rfl⟩, ⟨by simp⟩, ⟨by omega⟩, ⟨S_mono HS2.out (fun _ _ => trivial)⟩, HI2, HB2, HZ2, HV2⟩
    case round =>
      obtain ⟨j, gs, a, s, u, hjk, hgg, rfl, rfl, HG, HL, HX, HA, HS, HI3, HB3, HZ3, HV3⟩ := hrel
      have hab := HA.out
      by_cases hlt : (j : Int) < k
      · have hltz : (0 : Int) < k - (j : Int) := by omega
        obtain ⟨x, a2, s2, e2, x0, x1, a20, a21⟩ := pick_ok cd HBY.out a s (M : Int) hab.1 (by omega) (by omega) (by omega)
        obtain ⟨c, rfl⟩ : ∃ c : Nat, x = (c : Int) := ⟨x.toNat, by omega⟩
        have hc128 : c < 128 := by omega
        have HP := fun W hi hb => spec_l00Src_pick.calls g cd a s (M : Int) (c : Int) a2 s2 w0 W hi hb e2
        have HE2 := Aside0.mk e2
        have HLW : Aside0 (gs.length ≤ 10) := ⟨by rw [HL.out]; omega⟩
        clear e2
        have hOF := of_calls c hc128
        obtain ⟨gc, hgc⟩ : ∃ gc, gc = groupN c := ⟨_, rfl⟩
        rw [← hgc] at hOF
        have HGC := Aside0.mk hgc
        clear hgc
        go_wp2_with (first | (go_at_call 108; refine (HP _ HI3.out HB3.out).mono ?_; rintro e w3 ⟨rfl, hi, hb, hk⟩; have HI4 := Aside0.mk hi; have HB4 := Aside0.mk hb; have HZ4 := Aside0.mk (hk.blk HZ3.out (by omega) (by simp)); have HV4 := Aside0.mk (fun x (hx : X x) => hk.blk (HV3.out x hx) (HXG.out x hx) (by simp)); have HS4 := Aside0.mk (S_mono (S_keep (IsS104.apartS HI3.out HS.out (by decide)) hk (fun _ h => h.2)) (fun _ h => h.1)); clear hi hb hk) | (go_at_call 94; refine (hOF _).mono ?_; rintro e w4 ⟨v4, rfl, hr4, hb4⟩; obtain ⟨A4, c4, rfl⟩ := R_slice hr4; have HR4 := Aside0.mk hr4; have HB45 := Aside0.mk hb4; have HI5 := Aside0.mk (HI4.out.below hb4); have HZ5 := Aside0.mk (blk_below HZ4.out hb4); have HV5 := Aside0.mk (fun x (hx : X x) => blk_below (HV4.out x hx) hb4); have HB5 := Aside0.mk (below_then HB4.out HB4.out.size hb4); clear hr4 hb4) | (at_builtin; refine S_append dR (w0 := w0) (W := w4) w0.heap.size rfl (.tmp 43) (.tmp 50) 25 30 (.slice none 0 0) 24 rfl hut infoR rfl (by decide) (by decide) u gs gc [.slice A4 gc.length c4] (fun _ => True) (fun k => w3.heap.size ≤ k) rfl rfl ?h1 ?h2 ?h3 ?h4 ?h5 ?h6 ?h7 ?_; (case h1 => exact ⟨_, rfl, R_mono (R_lower (R_bound HR4.out) HB4.out.size) (fun k hk => hk.2.1)⟩); (case h2 => exact fun k hk => ⟨trivial, fun e => by have := S_lt HS4.out k e.symm; omega⟩); (case h3 => exact fun _ _ => trivial); (case h4 => exact S_mono (S_old HS4.out HB45.out) (fun k hk => ⟨trivial, by have := hk.2; omega⟩)); (case h5 => exact HB5.out); (case h6 => exact HB5.out.size); (case h7 => have := HLW.out; omega); intro v6 w6 hS6 hB6 hg6 hat6; have HS6 := Aside0.mk hS6; have HB6 := Aside0.mk hB6; have HI6 := Aside0.mk (IsS104.grown HI5.out hg6 (IsS104.own_neS HI5.out (S_below HS4.out HB45.out) (by decide))); have HZ6 := Aside0.mk (blk_grown HZ5.out hg6 (S_ne (S_below HS4.out HB45.out) HZ5.out (by decide))); have HV6 := Aside0.mk (fun x (hx : X x) => blk_grown (HV5.out x hx) hg6 (S_ne (S_below HS4.out HB45.out) (HV5.out x hx) (by decide))); clear hS6 hB6 hg6 hat6))
        go_roundg (k.toNat - (j + 1))
        case measure => omega
        case rel =>
          refine ⟨j + 1, _, a2, s2, _, by omega, by omega, ?_, rfl, ⟨?_⟩, ⟨?_⟩, ⟨?_⟩, ⟨by omega⟩, HS6, HI6, HB6, HZ6, HV6⟩
          · congr 1; omega
          · show (groupsD cd (M : Int) j ak sk).bind _ = _
            rw [HG.out]
            show (spec_l00Src_pick.f cd a s (M : Int)).bind _ = _
            rw [HE2.out, HGC.out]
            rfl
          · simp [HL.out]
          · intro y hy
            rw [List.mem_append] at hy
            rcases hy with hy | hy
            · exact HX.out y hy
            · rw [List.mem_singleton] at hy; exact ⟨c, by omega, by rw [hy, HGC.out]⟩
      · have hltz : ¬ (0 : Int) < k - (j : Int) := by omega
        have hjk2 : k.toNat = j := by omega
        have hsm : Smalls gs := fun x hx => by
          obtain ⟨c, hc, rfl⟩ := HX.out x hx
          intro y hy
          have := (groupN_is (n := 7) (by omega) (show c < 2 ^ 7 by omega)).1 y hy
          omega
        have hlens : ∀ x ∈ gs, x.length ≤ 9223372036854775807 := fun x hx => by
          obtain ⟨c, hc, rfl⟩ := HX.out x hx
          have := List.length_filter_le c.testBit (List.range 7)
          unfold groupN
          rw [List.length_map]
          have h2 : (List.range 7).length = 7 := by simp
          omega
        obtain ⟨kk, hkk⟩ := (table_is n hn gs hsm hlens (by rw [HL.out]; omega)).rounds
        have HT := fun gb W0 W hi hb => spec_l01Table.calls kk gb (n : Int) gs _ _ W0 W hi hb hkk
        have HFR := fun A c W hC hc => from_calls n hn A c (tableN n gs) W (by rw [tableN_len]) hC hc
        have hfam : famN n (tb (tableN n gs)) = famN n (openN gs) := famN_congr (fun c hc => tableN_at hc)
        rw [hfam] at HFR
        have HF : Aside0 (drawnF cd n a0 s0 = some (famN n (openN gs), a, s)) := ⟨by
          rw [HD.out, if_neg (by simp), HEK.out]
          show (groupsD cd (M : Int) k.toNat ak sk).bind _ = _
          rw [hjk2, HG.out]
          rfl⟩
        clear hkk hfam hsm hlens
        obtain ⟨A6, c6, rfl⟩ := S_slice HS.out
        generalize hTT : tableN n gs = T at *
        clear hTT
        generalize hFF : famN n (openN gs) = F at *
        clear hFF
        have HCG := Aside0.mk (S_reads' HS.out).2.2
        go_wp2_with (first | (go_at_call 81; refine (HT wr.heap.size wr _ ⟨A6, c6, blk_at rfl, Nat.le_refl _, HCG.out⟩ (below_alloc (Below.refl _ _) _)).mono ?_; rintro e w5 ⟨v5, rfl, hr5, _, hb5, _⟩; obtain ⟨A7, c7, rfl, hlc7, hC7⟩ := R_reads hr5; have HC7 := Aside0.mk hC7; have HLC7 := Aside0.mk hlc7; have HI5 := Aside0.mk (HI3.out.below hb5); have HZ5 := Aside0.mk (blk_below HZ3.out hb5); have HV5 := Aside0.mk (fun x (hx : X x) => blk_below (HV3.out x hx) hb5); have HB5 := Aside0.mk (below_then HB3.out HB3.out.size hb5); clear hr5 hb5 hC7 hlc7) | (go_at_call 80; refine (HFR _ _ _ HC7.out HLC7.out).mono ?_; rintro e w6 ⟨v6, rfl, hs6, hb6⟩; have HZ4 := Aside0.mk (blk_below HZ5.out hb6); have HV4 := Aside0.mk (fun x (hx : X x) => blk_below (HV5.out x hx) hb6); have z0 : w6.cell? ⟨w.heap.size, 0, none⟩ = some (.int .i64 0) := (blk_cell HZ4.out 0).trans rfl; have z1 : w6.cell? ⟨w.heap.size, 1, none⟩ = some (.slice none 0 0) := (blk_cell HZ4.out 1).trans rfl; have f0 := blk_frozen HZ4.out 0; have f1 := blk_frozen HZ4.out 1; obtain ⟨A8, c8, rfl⟩ := S_slice hs6; have HS8 := Aside0.mk hs6; have HI4 := Aside0.mk (HI5.out.below hb6); have HB4 := Aside0.mk (below_then HB5.out HB5.out.size hb6); clear hs6 hb6))
        have p0 := fun a b => put0 (a := a) (b := b) HZ4.out
        have p1 := fun a b => put1 (a := a) (b := b) HZ4.out
        refine bodyPost_ret (v := .agg #[.int .i64 (n : Int), .slice A8 F.length c8]) (by simp [results, Try.results68, go_sem, p0, p1]) rfl ⟨_, _, _, _, rfl, HF.out, S_put HZ4.out (S_lower HS8.out HB5.out.size), ?_, hab.1, by omega, below_set (below_set HB4.out hsz0) hsz0, ?_⟩
        · exact (HI4.out.far (by simp; omega) _).far (by simp; omega) _
        · intro x hx; have hxw := HXW.out x hx; rw [Below.heap_setCell _ _ _ _ (by simp; omega), Below.heap_setCell _ _ _ _ (by simp; omega)]; exact HV4.out x hx

end Go.Proofs.Ytmeaffkgnmgmeaa.Drawn
