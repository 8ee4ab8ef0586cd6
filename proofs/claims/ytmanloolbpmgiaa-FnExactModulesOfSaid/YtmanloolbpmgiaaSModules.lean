/- Contract of the reference's ModulesOf. -/
import Derived.Test.YtmanloolbpmgiaaModF
import Derived.Test.YtmanloolbpmgiaaModules
namespace Go.Proofs.Ytmanloolbpmgiaa.SModules
open Go.RowKit Go.Lib Go.Proofs Go.Proofs.YtmanloolbpmgiaaW.PrintWords Go.Proofs.YtmanloolbpmgiaaW.PrintWords.Kd Go.Proofs.YtmanloolbpmgiaaW.PrintLast Go.Proofs.YtmanloolbpmgiaaW.PrintMore Go.Proofs.Ytmanloolbpmgiaa.G Go.Proofs.Ytmanloolbpmgiaa.Fam Go.Proofs.Ytmanloolbpmgiaa.Loops Go.Proofs.Ytmanloolbpmgiaa.Bits Go.Proofs.Ytmanloolbpmgiaa.Sorting Go.Proofs.Ytmanloolbpmgiaa.Crowds Go.Proofs.Ytmanloolbpmgiaa.Sorted Go.Proofs.Ytmanloolbpmgiaa.Idx Go.Proofs.Ytmanloolbpmgiaa.Valid Go.Proofs.Ytmanloolbpmgiaa.FamLaw Go.Proofs.Ytmanloolbpmgiaa.Opens Go.Proofs.Ytmanloolbpmgiaa.Ops Go.Proofs.Ytmanloolbpmgiaa.From Go.Proofs.Ytmanloolbpmgiaa.Ref Go.Proofs.Ytmanloolbpmgiaa.Ok Go.Proofs.Ytmanloolbpmgiaa.Opening Go.Proofs.Ytmanloolbpmgiaa.SOpen Go.Proofs.Ytmanloolbpmgiaa.ModN Go.Proofs.Ytmanloolbpmgiaa.ModF Go.Proofs.Ytmanloolbpmgiaa.SMod Go.Proofs.Ytmanloolbpmgiaa.Modules
set_option linter.unusedVariables false
set_option linter.unusedSimpArgs false

theorem modS_calls (b : Nat) (n : Nat) (gs : List (List Int)) (A1 : Option Addr) (c1 : Nat) (g : List Int) (w0 w : World) (hI : IsS26 w0 w b (n : Int) gs) (hB : Below w0.heap.size w0 w) (hr1 : Kd.C (Kd.int .i64) w A1 g.length g) (hc1 : g.length ≤ c1) (hf1 : ∀ ad, A1 = some ad → 0 < g.length → ad.block ≠ b) (hv : ValidF (n : Int) gs) (hg : isGroupN n g) :
    Calls Try.prog 82 #[.pointer (some ⟨b, 0, none⟩), .slice A1 g.length c1] w fun e w' => ∃ v own, e = .returned (.tuple #[v, .bool (isModB n gs g)]) ∧ ModRes n gs g (own, isModB n gs g, (n : Int)) ∧ Kd.R Kd.bool 4 w' w.heap.size (fun _ => True) v own ∧ IsS26 w0 w' b (n : Int) gs ∧ Below w0.heap.size w0 w' ∧ KeepBut w w' b none := by
  have hI' := hI
  obtain ⟨A, c, _, _, hC⟩ := hI'
  have hl := lens_of hC
  obtain ⟨⟨r1, r2, r3⟩, hE, hres⟩ := module_is hv hl.2 hl.1 hg
  obtain ⟨k, hk⟩ := hE.rounds
  obtain ⟨h1, h2, h3⟩ := hres
  simp only at h1 h2
  subst h1
  subst h2
  refine (spec_l02Module.calls k b (n : Int) gs A1 c1 g r1 _ _ w0 w hI hB hr1 hc1 hf1 hk).mono ?_
  rintro e w' ⟨v, he, hr, hi, hb, hk⟩
  exact ⟨v, r1, he, ⟨rfl, rfl, h3⟩, hr, hi, hb, hk⟩

set_option maxHeartbeats 2000000 in
theorem SModules_no (n : Int) (A : Option Addr) (cap : Nat) (gs : List (List Int)) (w : World) (hC : dR.C w A gs.length gs) (hcap : gs.length ≤ cap) (hv : ¬ ValidF n gs) :
    Calls Try.prog 41 #[.agg #[.int .i64 n, .slice A gs.length cap]] w (RowsRes w [] 1) := by
  have hu := Try.underlying26
  have HV := fun W h0 h1 h => ok_calls w.heap.size n A cap gs W h0 h1 h
  rw [decide_eq_false hv] at HV
  have HBX := Aside0.mk (FamBox.new w n A cap gs 26 hC)
  clear hC hv
  go_enter Try.func41, Try.ntmps41
  go_wp2_with (go_at_call 78; refine (HV _ HBX.out.1 HBX.out.2.1 HBX.out.2.2).mono ?_; rintro e w1 ⟨rfl, hb1⟩; have HB := Aside0.mk (below_then (B := w.heap.size) (below_alloc (Below.refl _ _) _) (by simp) hb1); clear hb1)
  refine bodyPost_ret (v := .tuple #[.slice (some ⟨w1.heap.size, 0, none⟩) 0 0, .int .i64 1]) (by simp [results, Try.results41, go_sem]) rfl ⟨_, rfl, S_empty dR _ w1 _ HB.out.size, HB.out.alloc HB.out.size _⟩

theorem isS_below {w0 W W' : World} {g : Nat} {n : Int} {gs : List (List Int)} (h : IsS26 w0 W g n gs) (hb : Below W.heap.size W W') : IsS26 w0 W' g n gs := by
  obtain ⟨A, c, h1, h2, h3⟩ := h
  exact ⟨A, c, blk_below h1 hb, h2, h3⟩
theorem S_later {W W' : World} {base : Nat} {ok : Nat → Prop} {v : Value} {gs : List (List Int)} (h : Kd.S dR 28 W base ok v gs) (hb : Below W.heap.size W W') : Kd.S dR 28 W' base ok v gs :=
  S_mono (S_old h hb) (fun k hk => hk.1)
theorem first_none (n : Nat) (gs : List (List Int)) : ((List.range 1).filter (modP n gs)).map groupN = [] := by
  have h : modP n gs 0 = false := by unfold modP isModB; rw [show groupN 0 = [] from by decide]; rfl
  rw [show List.range 1 = [0] from rfl]
  simp [h]
set_option maxHeartbeats 8000000 in
set_option maxRecDepth 100000 in
theorem SModules_yes (n : Nat) (A : Option Addr) (cap : Nat) (gs : List (List Int)) (w : World) (hC : dR.C w A gs.length gs) (hcap : gs.length ≤ cap) (hv : ValidF (n : Int) gs) :
    Calls Try.prog 41 #[.agg #[.int .i64 (n : Int), .slice A gs.length cap]] w (RowsRes w (crowdsN n (modP n gs)) 0) := by
  have hu := Try.underlying26
  have hut := Try.underlying24
  have hn : n ≤ 7 := by have := hv.1; omega
  have hn1 : 1 ≤ n := by have := hv.1; omega
  have h7 : 2 ^ n ≤ 128 := two_pow_le hn
  have hpos := Nat.two_pow_pos n
  have HV := fun W h0 h1 h => ok_calls w.heap.size (n : Int) A cap gs W h0 h1 h
  rw [decide_eq_true hv] at HV
  have HMS := Aside0.mk (fun c (hc : c < 2 ^ n) A1 c1 W hI hB h1 h2 h3 => modS_calls w.heap.size n gs A1 c1 (groupN c) w W hI hB h1 h2 h3 hv (groupN_is hn hc))
  have HBX := Aside0.mk (FamBox.new w (n : Int) A cap gs 26 hC)
  have HC := Aside0.mk hC
  have HLN := Aside0.mk (crowds_list n (modP n gs) hn)
  have HLL := Aside0.mk (crowds_len n (modP n gs) hn)
  have HF0 := Aside0.mk (first_none n gs)
  clear hC hv
  unfold crowdsN
  have hsh : wrap64 (2 ^ n) = ((2 ^ n : Nat) : Int) := by
    rw [show (2 : Int) ^ n = ((2 ^ n : Nat) : Int) from by simp, wrap_id (by omega) (by omega)]
  generalize hM : 2 ^ n = M at *
  have HM := Aside0.mk hM
  clear hM
  go_enter Try.func41, Try.ntmps41
  go_wp2_with (first | (go_at_call 78; refine (HV _ HBX.out.1 HBX.out.2.1 HBX.out.2.2).mono ?_; rintro e w1 ⟨rfl, hb1⟩; have HI := Aside0.mk (show IsS26 w w1 w.heap.size (n : Int) gs from ⟨A, cap, blk_below (blk_new w (.cells #[.int .i64 (n : Int), .slice A gs.length cap] 26)) hb1, Nat.le_refl _, HC.out⟩); have HB := Aside0.mk (below_then (B := w.heap.size) (below_alloc (Below.refl _ _) _) (by simp) hb1); have HSZ := Aside0.mk (show w.heap.size + 1 ≤ w1.heap.size by have h_ := hb1.size; simpa using h_); clear hb1))
  go_loopg [4, 5] M (fun gg v4 v5 wr => ∃ (c : Nat) (u : Value), 1 ≤ c ∧ c ≤ M ∧ M - c ≤ gg ∧ v5 = .int .i64 (c : Int) ∧ u = v4 ∧ Aside0 (Kd.S dR 28 wr w.heap.size (fun k => w.heap.size < k) u (((List.range c).filter (modP n gs)).map groupN)) ∧ Aside0 (Below w.heap.size w wr) ∧ Aside0 (IsS26 w wr w.heap.size (n : Int) gs))
  case atStart => exact ⟨1, _, Nat.le_refl _, hpos, by omega, rfl, rfl, ⟨by rw [HF0.out]; exact S_mono (S_lower (S_bound (S_empty dR _ w1 w1.heap.size (Nat.le_refl _))) HB.out.size) (fun k hk => by have h_ := hk.2.1; have h2_ := HSZ.out; omega)⟩, ⟨HB.out.alloc HB.out.size _⟩, ⟨IsS26.alloc HI.out _⟩⟩
  case round =>
    obtain ⟨c, u, hc1, hcM, hgg, rfl, rfl, HS, HBR, HIR⟩ := hrel
    have hn0 := hold_of HIR.out
    obtain ⟨AI, cI, hIB, _, _⟩ := HIR.out
    have HIB := Aside0.mk hIB
    clear hIB
    by_cases hlt : c < M
    · have hc128 : c < 128 := by omega
      have hmp : modP n gs c = isModB n gs (groupN c) := rfl
      cases hq : modP n gs c with
      | false =>
        rw [hq] at hmp
        have HQ := Aside0.mk hq
        have HMP := Aside0.mk hmp
        clear hq hmp
        go_wp2_with (fail)
        (go_at_call 83; refine (of_calls c hc128 _).mono ?_; rintro e w3 ⟨v3, rfl, hr3, hb3⟩; obtain ⟨A3, c3, rfl⟩ := R_slice hr3; have HR3 := Aside0.mk hr3; have HB3 := Aside0.mk hb3; clear hr3 hb3)
        go_wp2_with (fail)
        (refine (HMS.out c hlt _ _ _ (isS_below HIR.out HB3.out) (below_then HBR.out HBR.out.size HB3.out) (R_reads' HR3.out).2.2 (R_reads' HR3.out).2.1 (fun ad ha _ => by have h_ := R_base HR3.out ad.block (by rw [ha]; rfl); have h2_ := HBR.out.size; have h3_ := blk_lt HIB.out; omega)).mono ?_; rintro e w4 ⟨v4, own, rfl, _, hr4, hi4, hb4, hk4⟩; obtain ⟨A4, c4, rfl⟩ := R_slice hr4; have HI4 := Aside0.mk hi4; have HB4 := Aside0.mk hb4; have HK4 := Aside0.mk hk4; clear hr4 hi4 hb4 hk4)
        rw [← HMP.out]
        go_wp2_with (fail)
        go_roundg (M - (c + 1))
        case measure => omega
        case rel =>
          refine ⟨c + 1, _, by omega, by omega, by omega, by go_num, rfl, ⟨?_⟩, HB4, HI4⟩
          rw [filter_step, HQ.out, if_neg (by simp), List.append_nil]
          exact S_kept (S_later HS.out HB3.out) (kept_of HK4.out (P := fun k => k = w.heap.size) rfl) (fun k hk e => by omega)
      | true =>
        rw [hq] at hmp
        have HQ := Aside0.mk hq
        have HMP := Aside0.mk hmp
        clear hq hmp
        have hlen := filter_len (modP n gs) c
        generalize hL : ((List.range c).filter (modP n gs)).map groupN = L at *
        have HLX := Aside0.mk hL
        have Hlen := Aside0.mk hlen
        clear hL hlen
        go_wp2_with (fail)
        (go_at_call 83; refine (of_calls c hc128 _).mono ?_; rintro e w3 ⟨v3, rfl, hr3, hb3⟩; obtain ⟨A3, c3, rfl⟩ := R_slice hr3; have HR3 := Aside0.mk hr3; have HB3 := Aside0.mk hb3; clear hr3 hb3)
        go_wp2_with (fail)
        (refine (HMS.out c hlt _ _ _ (isS_below HIR.out HB3.out) (below_then HBR.out HBR.out.size HB3.out) (R_reads' HR3.out).2.2 (R_reads' HR3.out).2.1 (fun ad ha _ => by have h_ := R_base HR3.out ad.block (by rw [ha]; rfl); have h2_ := HBR.out.size; have h3_ := blk_lt HIB.out; omega)).mono ?_; rintro e w4 ⟨v4, own, rfl, _, hr4, hi4, hb4, hk4⟩; obtain ⟨A4, c4, rfl⟩ := R_slice hr4; have HI4 := Aside0.mk hi4; have HB4 := Aside0.mk hb4; have HK4 := Aside0.mk hk4; clear hr4 hi4 hb4 hk4)
        rw [← HMP.out]
        have HZ := Aside0.mk (show w.heap.size < wr.heap.size ∧ wr.heap.size ≤ w3.heap.size ∧ w3.heap.size ≤ w4.heap.size from ⟨blk_lt HIB.out, HB3.out.size, HK4.out.1⟩)
        go_wp2_with (fail)
        (go_at_call 83; refine (of_calls c hc128 _).mono ?_; rintro e w5 ⟨v5, rfl, hr5, hb5⟩; obtain ⟨A5, c5, rfl⟩ := R_slice hr5; have HR5 := Aside0.mk hr5; have HB5 := Aside0.mk hb5; clear hr5 hb5)
        go_wp2_with (at_builtin; refine S_append dR (w0 := w) (W := w5) w.heap.size rfl (.tmp 27) (.tmp 30) 24 28 (.slice none 0 0) 24 rfl hut infoR rfl (by decide) (by decide) u L (groupN c) [.slice A5 (groupN c).length c5] (fun k => w.heap.size < k) (fun k => w4.heap.size ≤ k) rfl rfl ?h1 ?h2 ?h3 ?h4 ?h5 ?h6 ?h7 ?_; (case h1 => exact ⟨_, rfl, R_mono (R_lower (R_bound HR5.out) HB4.out.size) (fun k hk => hk.2.1)⟩); (case h2 => exact fun k hk => ⟨by have h_ := HZ.out; omega, fun e => by have h_ := HZ.out; have h2_ := S_lt HS.out k e.symm; omega⟩); (case h3 => exact fun k hk => by have h_ := HZ.out; have h2_ := HB5.out.size; omega); (case h4 => exact S_mono (S_later (S_kept (S_later (S_bound HS.out) HB3.out) (kept_of HK4.out (P := fun k => k = w.heap.size) rfl) (fun k hk e => by have h_ := hk.1; omega)) HB5.out) (fun k hk => ⟨hk.1, by have h_ := hk.2.2.1; have h2_ := HZ.out; omega⟩)); (case h5 => exact below_then HB4.out HB4.out.size HB5.out); (case h6 => exact Nat.le_trans HB4.out.size HB5.out.size); (case h7 => have := Hlen.out; omega); intro v6 w6 hS6 hB6 hg6 hat6; have HS6 := Aside0.mk hS6; have HB6 := Aside0.mk hB6; have HG6 := Aside0.mk hg6; clear hS6 hB6 hg6 hat6)
        go_roundg (M - (c + 1))
        case measure => omega
        case rel =>
          refine ⟨c + 1, _, by omega, by omega, by omega, by go_num, rfl, ⟨?_⟩, HB6, ⟨IsS26.grown (isS_below HI4.out HB5.out) HG6.out (fun e => Nat.lt_irrefl _ ((S_R HS.out).1 w.heap.size e.symm))⟩⟩
          rw [filter_step, HQ.out, if_pos rfl, HLX.out]
          exact HS6.out
    · have hltz : ¬ (c : Int) < (M : Int) := by omega
      obtain rfl : c = M := by omega
      have hlen62 : (((List.range c).filter (modP n gs)).map groupN).length < 4611686018427387904 := by have := HLL.out; omega
      have hS := sorted_calls w.heap.size (fun k => w.heap.size < k) u _ wr HS.out hlen62
      have HG := Aside0.mk (fun k (hk : u.ownBlock = some k) => S_base HS.out k hk)
      go_wp2_with (go_at_call 84; refine hS.mono ?_; rintro e w5 ⟨rfl, hS', hg'⟩)
      go_ret2
      exact ⟨_, rfl, S_mono hS' (fun _ _ => trivial), pw_below_grown HBR.out _ HBR.out.size hg' (fun k hk => HG.out k hk)⟩
theorem SModules_calls (n : Int) (A : Option Addr) (cap : Nat) (gs : List (List Int)) (w : World) (hC : dR.C w A gs.length gs) (hcap : gs.length ≤ cap) :
    Calls Try.prog 41 #[.agg #[.int .i64 n, .slice A gs.length cap]] w (RowsRes w (ModulesF n gs).1 (ModulesF n gs).2) := by
  unfold ModulesF
  by_cases hv : ValidF n gs
  · rw [if_pos hv]
    obtain ⟨m, rfl⟩ : ∃ m : Nat, n = (m : Int) := ⟨n.toNat, by have := hv.1; omega⟩
    rw [Int.toNat_natCast]
    exact SModules_yes m A cap gs w hC hcap hv
  · rw [if_neg hv]
    exact SModules_no n A cap gs w hC hcap hv

end Go.Proofs.Ytmanloolbpmgiaa.SModules
