/- Contracts of the reference's l01Pair, EitherFamily and BothFamilies. -/
import Derived.Test.YtmeaffkgnmgmeaaSDual
import Derived.Test.YtmeaffkgnmgmeaaSTab
import Derived.Test.YtmeaffkgnmgmeaaLattice
namespace Go.Proofs.Ytmeaffkgnmgmeaa.SPair
open Go.RowKit Go.Lib Go.Proofs Go.Proofs.YtmeaffkgnmgmeaaW.PrintWords Go.Proofs.YtmeaffkgnmgmeaaW.PrintWords.Kd Go.Proofs.YtmeaffkgnmgmeaaW.PrintLast Go.Proofs.YtmeaffkgnmgmeaaW.PrintMore Go.Proofs.Ytmeaffkgnmgmeaa.G Go.Proofs.Ytmeaffkgnmgmeaa.Fam Go.Proofs.Ytmeaffkgnmgmeaa.Loops Go.Proofs.Ytmeaffkgnmgmeaa.Bits Go.Proofs.Ytmeaffkgnmgmeaa.Sorting Go.Proofs.Ytmeaffkgnmgmeaa.Crowds Go.Proofs.Ytmeaffkgnmgmeaa.Sorted Go.Proofs.Ytmeaffkgnmgmeaa.Idx Go.Proofs.Ytmeaffkgnmgmeaa.Valid Go.Proofs.Ytmeaffkgnmgmeaa.FamLaw Go.Proofs.Ytmeaffkgnmgmeaa.Opens Go.Proofs.Ytmeaffkgnmgmeaa.Ops Go.Proofs.Ytmeaffkgnmgmeaa.From Go.Proofs.Ytmeaffkgnmgmeaa.Ref Go.Proofs.Ytmeaffkgnmgmeaa.Ok Go.Proofs.Ytmeaffkgnmgmeaa.SDual Go.Proofs.Ytmeaffkgnmgmeaa.SOpen Go.Proofs.Ytmeaffkgnmgmeaa.Lattice
set_option linter.unusedVariables false
set_option linter.unusedSimpArgs false

theorem is_cells {w0 W : World} {g : Nat} {n : Int} {gs : List (List Int)} (h : IsS27 w0 W g n gs) (hB : Below w0.heap.size w0 W) :
    ∃ A c, W.cell? ⟨g, 0, none⟩ = some (.int .i64 n) ∧ W.cell? ⟨g, 1, none⟩ = some (.slice A gs.length c) ∧ dR.C W A gs.length gs := by
  obtain ⟨A, c, hb, _, hC⟩ := h
  exact ⟨A, c, (blk_cell hb 0).trans rfl, (blk_cell hb 1).trans rfl, C_below hC hB⟩
theorem okS_calls (g : Nat) (n : Int) (gs : List (List Int)) (w0 w : World) (hI : IsS27 w0 w g n gs) (hB : Below w0.heap.size w0 w) :
    Calls Try.prog 93 #[.pointer (some ⟨g, 0, none⟩)] w fun e w' => e = .returned (.bool (decide (ValidF n gs))) ∧ Below w.heap.size w w' := by
  obtain ⟨A, c, h0, h1, hC⟩ := is_cells hI hB
  exact ok_calls g n A c gs w h0 h1 hC
theorem isS_keep {w0 W W' : World} {g b : Nat} {n : Int} {gs : List (List Int)} (h : IsS27 w0 W g n gs) (hk : KeepBut W W' b none) (hne : g ≠ b) : IsS27 w0 W' g n gs := by
  obtain ⟨A, c, hb, hg, hC⟩ := h
  exact ⟨A, c, hk.blk hb hne (by simp), hg, hC⟩
theorem kept_of {W W' : World} {g : Nat} {P : Nat → Prop} (hk : KeepBut W W' g none) (hP : P g) : Kept W W' P := ⟨hk.1, fun i hi hn => hk.2 i hi (fun e => hn (by rw [e]; exact hP)) (by simp)⟩
theorem infoB : (Try.prog.info? 4).map (fun i => (i.zero, i.size, i.bytes)) = some (some (.bool false), 1, 1) := by kernel_rfl

theorem tableR_calls (g : Nat) (n : Nat) (hn : n ≤ 7) (gs : List (List Int)) (hs : Smalls gs) (w0 w : World) (hI : IsS27 w0 w g (n : Int) gs) (hB : Below w0.heap.size w0 w) :
    Calls Try.prog 81 #[.pointer (some ⟨g, 0, none⟩)] w fun e w' => ∃ T c, e = .returned (.slice T (2 ^ n) c) ∧ 2 ^ n ≤ c ∧ Kd.R Kd.bool 4 w' w.heap.size (fun _ => True) (.slice T (2 ^ n) c) (tableN n gs) ∧ IsS27 w0 w' g (n : Int) gs ∧ Below w0.heap.size w0 w' ∧ KeepBut w w' g none := by
  have hI' := hI
  obtain ⟨A, c, _, _, hC⟩ := hI'
  have hl := lens_of hC
  obtain ⟨k, hk⟩ := (table_is n hn gs hs hl.2 hl.1).rounds
  refine (spec_l01Table.calls k g (n : Int) gs _ _ w0 w hI hB hk).mono ?_
  rintro e w' ⟨v, rfl, hr, hi, hb, hk⟩
  obtain ⟨T, cT, rfl, hc, hCT⟩ := R_reads hr
  rw [tableN_len] at hc hr ⊢
  exact ⟨T, cT, rfl, hc, hr, hi, hb, hk⟩
theorem R_still {w w3 w4 : World} {e g : Nat} {v : Value} {l : List Bool} (h : Kd.R Kd.bool e w3 w.heap.size (fun _ => True) v l) (hk : KeepBut w3 w4 g none) (hg : g < w.heap.size) : Kd.R Kd.bool e w4 w.heap.size (fun _ => True) v l :=
  R_mono (R_keep (R_mono (R_bound h) (fun k hk => hk.2.1)) hk (fun k hk => by have : w.heap.size ≤ k := hk; omega)) (fun _ _ => trivial)

/-- Either of two, or both. -/
def pairP (b : Bool) (gs hs : List (List Int)) (c : Nat) : Bool := openN gs c && openN hs c || (!b && (openN gs c || openN hs c))
theorem pair_both (gs hs : List (List Int)) (c : Nat) : pairP true gs hs c = bothP gs hs c := by unfold pairP bothP; simp
theorem pair_either (gs hs : List (List Int)) (c : Nat) : pairP false gs hs c = eitherP gs hs c := by unfold pairP eitherP; cases openN gs c <;> cases openN hs c <;> rfl

/-- What l01Pair hands back. -/
def PairRes (w0 w : World) (bf bg : Nat) (r1 : Int) (r2 : List (List Int)) (r3 : Int) (e : Ending) (w' : World) : Prop :=
  ∃ v, e = .returned (.tuple #[.agg #[.int .i64 r1, v], .int .i64 r3]) ∧ Kd.S dR 30 w' w.heap.size (fun _ => True) v r2 ∧ Below w0.heap.size w0 w' ∧ Kept w w' (fun k => k = bf ∨ k = bg)

set_option maxHeartbeats 8000000 in
set_option maxRecDepth 100000 in
theorem pair_yes (b : Bool) (n : Nat) (gs hs : List (List Int)) (bf bg : Nat) (hne : bf ≠ bg) (w0 w : World) (hI1 : IsS27 w0 w bf (n : Int) gs) (hI2 : IsS27 w0 w bg (n : Int) hs) (hB : Below w0.heap.size w0 w) (hv1 : ValidF (n : Int) gs) (hv2 : ValidF (n : Int) hs) :
    Calls Try.prog 99 #[.pointer (some ⟨bf, 0, none⟩), .pointer (some ⟨bg, 0, none⟩), .bool b] w (PairRes w0 w bf bg (n : Int) (famN n (pairP b gs hs)) 0) := by
  have hu := Try.underlying27
  have hut := Try.underlying82
  have hn : n ≤ 7 := by have := hv1.1; omega
  have h7 : 2 ^ n ≤ 128 := two_pow_le hn
  have HOK1 := fun W hI hB => okS_calls bf (n : Int) gs w0 W hI hB
  rw [decide_eq_true hv1] at HOK1
  have HOK2 := fun W hI hB => okS_calls bg (n : Int) hs w0 W hI hB
  rw [decide_eq_true hv2] at HOK2
  have HT1 := fun W hI hB => tableR_calls bf n hn gs (smalls_of hv1) w0 W hI hB
  have HT2 := fun W hI hB => tableR_calls bg n hn hs (smalls_of hv2) w0 W hI hB
  have HAT1 := Aside0.mk (fun c (hc : c < 2 ^ n) => tableN_at (gs := gs) hc)
  have HAT2 := Aside0.mk (fun c (hc : c < 2 ^ n) => tableN_at (gs := hs) hc)
  have HFR := fun (W : World) A c (hC : Kd.bool.C W A (tab (pairP b gs hs) (2 ^ n)).length (tab (pairP b gs hs) (2 ^ n))) hc => FromF_calls (n : Int) A c (tab (pairP b gs hs) (2 ^ n)) _ _ W hC hc (from_tab hn (pairP b gs hs))
  have HI1 := Aside0.mk (hI1.alloc (.cells #[.int .i64 0, .slice none 0 0] 27))
  have HI2 := Aside0.mk (hI2.alloc (.cells #[.int .i64 0, .slice none 0 0] 27))
  have HB := Aside0.mk (hB.alloc hB.size (.cells #[.int .i64 0, .slice none 0 0] 27))
  have HZ := Aside0.mk (blk_new w (.cells #[.int .i64 0, .slice none 0 0] 27))
  have HNE := Aside0.mk hne
  have HL1 := Aside0.mk (show bf < w.heap.size from hI1.lt)
  have HL2 := Aside0.mk (show bg < w.heap.size from hI2.lt)
  have HWB := Aside0.mk hB
  have HTL := Aside0.mk (tab_len (pairP b gs hs) (2 ^ n))
  have HTN1 := Aside0.mk (tableN_len n gs)
  have HTN2 := Aside0.mk (tableN_len n hs)
  clear hI1 hI2 hB hv1 hv2 hne
  generalize hF : famN n (pairP b gs hs) = F at *
  generalize hM : 2 ^ n = M at *
  have HM := Aside0.mk hM
  clear hM
  go_enter Try.func99, Try.ntmps99
  go_wp2_with (fail)
  (refine (HOK1 _ HI1.out HB.out).mono ?_; rintro e w1 ⟨rfl, hb1⟩; have HI1a := Aside0.mk (HI1.out.below hb1); have HI2a := Aside0.mk (HI2.out.below hb1); have HZ1 := Aside0.mk (blk_below HZ.out hb1); have HB1 := Aside0.mk (below_then (B := w0.heap.size) HB.out HB.out.size hb1); have HK1 := Aside0.mk (Kept.of_below (below_then (B := w.heap.size) (below_alloc (Below.refl _ _) _) (by simp) hb1) (fun k => k = bf ∨ k = bg)); clear hb1)
  go_wp2_with (fail)
  (refine (HOK2 _ HI2a.out HB1.out).mono ?_; rintro e w2 ⟨rfl, hb2⟩; have HI1b := Aside0.mk (HI1a.out.below hb2); have HI2b := Aside0.mk (HI2a.out.below hb2); have HZ2 := Aside0.mk (blk_below HZ1.out hb2); have HB2 := Aside0.mk (below_then (B := w0.heap.size) HB1.out HB1.out.size hb2); have HK2 := Aside0.mk (HK1.out.below hb2); clear hb2)
  have hf0 := hold_of HI1b.out
  have hg0 := hold_of HI2b.out
  go_wp2_with (fail)
  go_quiet (fail)
  go_wp2_with (fail)
  clear hf0 hg0
  (refine (HT1 _ (HI1b.out.drewN _) (pw_below_drewN HB2.out _)).mono ?_; rintro e w3 ⟨T1, c1, rfl, hc1, hr1, hi1, hb3, hk3⟩; have HI1c := Aside0.mk hi1; have HI2c := Aside0.mk (isS_keep (HI2b.out.drewN _) hk3 (fun e => HNE.out e.symm)); have HZ3 := Aside0.mk (hk3.blk (blk_drewN HZ2.out _) (fun e => by have := HL1.out; omega) (by simp)); have HB3 := Aside0.mk hb3; have HK3 := Aside0.mk ((HK2.out.drewN _).then_ (kept_of (P := fun k => k = bf ∨ k = bg) hk3 (.inl rfl)) (fun _ h => .inl h)); have HR1 := Aside0.mk hr1; clear hi1 hb3 hk3 hr1)
  go_wp2_with (fail)
  (refine (HT2 _ HI2c.out HB3.out).mono ?_; rintro e w4 ⟨T2, c2, rfl, hc2, hr2, hi2, hb4, hk4⟩; have HI1d := Aside0.mk (isS_keep HI1c.out hk4 HNE.out); have HZ4 := Aside0.mk (hk4.blk HZ3.out (fun e => by have := HL2.out; omega) (by simp)); have HB4 := Aside0.mk hb4; have HK4 := Aside0.mk (HK3.out.then_ (kept_of (P := fun k => k = bf ∨ k = bg) hk4 (.inr rfl)) (fun _ h => .inl h)); have HC1 := Aside0.mk (R_reads' (R_still HR1.out hk4 (by have h_ := HK2.out.1; have h2_ := HL2.out; simpa using Nat.lt_of_lt_of_le h2_ h_))).2.2; have HC2 := Aside0.mk (R_reads' hr2).2.2; clear hi2 hb4 hk4 hr2)
  go_wp2_with (fail)
  go_loopg [10, 11] M (fun gg v10 v11 wr => ∃ (c : Nat) (u : Value), c ≤ M ∧ M - c ≤ gg ∧ v11 = .int .i64 (c : Int) ∧ u = v10 ∧ Aside0 (Kd.S Kd.bool 4 wr w4.heap.size (fun _ => True) u (tab (pairP b gs hs) c)) ∧ Aside0 (Below w4.heap.size w4 wr))
  case atStart => exact ⟨0, _, Nat.zero_le _, by omega, rfl, rfl, ⟨S_empty Kd.bool _ w4 _ (Nat.le_refl _)⟩, ⟨below_alloc (Below.refl _ _) _⟩⟩
  case round =>
    obtain ⟨c, u, hcM, hgg, rfl, rfl, HS, HBR⟩ := hrel
    by_cases hlt : c < M
    · have hltz : (c : Int) < (M : Int) := by omega
      obtain ⟨ad1, rfl, hx1⟩ := table_at (Kd.C_below HC1.out HBR.out) (show c < (tableN n gs).length by rw [HTN1.out]; exact hlt)
      obtain ⟨ad2, rfl, hx2⟩ := table_at (Kd.C_below HC2.out HBR.out) (show c < (tableN n hs).length by rw [HTN2.out]; exact hlt)
      rw [HAT1.out c hlt] at hx1
      rw [HAT2.out c hlt] at hx2
      have hlen : (tab (pairP b gs hs) c).length = c := tab_len _ _
      have HSU := Aside0.mk (tab_succ (pairP b gs hs) c)
      have HPX := Aside0.mk (show pairP b gs hs c = (openN gs c && openN hs c || (!b && (openN gs c || openN hs c))) from rfl)
      generalize hL : tab (pairP b gs hs) c = L at *
      have HLX := Aside0.mk hL
      have Hlen := Aside0.mk hlen
      clear hL hlen
      generalize openN gs c = x at *
      generalize openN hs c = y at *
      generalize pairP b gs hs c = z at *
      have HPY := Aside0.mk (show ∀ v : Bool, (x && y || (!b && (x || y))) = v → L ++ [v] = tab (pairP b gs hs) (c + 1) from fun v hv => by rw [HSU.out, HPX.out, hv])
      clear HSU HPX
      cases x <;> cases y <;> cases b
      · obtain HPZ := Aside0.mk (HPY.out false rfl)
        clear HPY
        go_wp2_with (at_builtin; refine S_append Kd.bool (w0 := w4) (W := wr) w4.heap.size rfl (.tmp 42) (.tmp 69) 82 4 (.bool false) 1 rfl hut infoB rfl (by decide) (by decide) u L false [.bool false] (fun _ => True) (fun _ => False) rfl rfl ?h1 ?h2 ?h3 ?h4 ?h5 ?h6 ?h7 ?_; (case h1 => rfl); (case h2 => exact fun k hk => hk.elim); (case h3 => exact fun _ _ => trivial); (case h4 => exact S_mono HS.out (fun k _ => ⟨trivial, fun h => h⟩)); (case h5 => exact HBR.out); (case h6 => exact HBR.out.size); (case h7 => have := Hlen.out; omega); intro v5 w5 hS5 hB5 hg5 hat5; have HS5 := Aside0.mk hS5; have HB5 := Aside0.mk hB5; clear hS5 hB5 hg5 hat5)
        go_roundg (M - (c + 1))
        case measure => omega
        case rel => exact ⟨c + 1, _, by omega, by omega, by go_num, rfl, ⟨by rw [← HPZ.out]; exact HS5.out⟩, HB5⟩
      · obtain HPZ := Aside0.mk (HPY.out false rfl)
        clear HPY
        go_wp2_with (at_builtin; refine S_append Kd.bool (w0 := w4) (W := wr) w4.heap.size rfl (.tmp 42) (.tmp 69) 82 4 (.bool false) 1 rfl hut infoB rfl (by decide) (by decide) u L false [.bool false] (fun _ => True) (fun _ => False) rfl rfl ?h1 ?h2 ?h3 ?h4 ?h5 ?h6 ?h7 ?_; (case h1 => rfl); (case h2 => exact fun k hk => hk.elim); (case h3 => exact fun _ _ => trivial); (case h4 => exact S_mono HS.out (fun k _ => ⟨trivial, fun h => h⟩)); (case h5 => exact HBR.out); (case h6 => exact HBR.out.size); (case h7 => have := Hlen.out; omega); intro v5 w5 hS5 hB5 hg5 hat5; have HS5 := Aside0.mk hS5; have HB5 := Aside0.mk hB5; clear hS5 hB5 hg5 hat5)
        go_roundg (M - (c + 1))
        case measure => omega
        case rel => exact ⟨c + 1, _, by omega, by omega, by go_num, rfl, ⟨by rw [← HPZ.out]; exact HS5.out⟩, HB5⟩
      · obtain HPZ := Aside0.mk (HPY.out true rfl)
        clear HPY
        go_wp2_with (at_builtin; refine S_append Kd.bool (w0 := w4) (W := wr) w4.heap.size rfl (.tmp 42) (.tmp 69) 82 4 (.bool false) 1 rfl hut infoB rfl (by decide) (by decide) u L true [.bool true] (fun _ => True) (fun _ => False) rfl rfl ?h1 ?h2 ?h3 ?h4 ?h5 ?h6 ?h7 ?_; (case h1 => rfl); (case h2 => exact fun k hk => hk.elim); (case h3 => exact fun _ _ => trivial); (case h4 => exact S_mono HS.out (fun k _ => ⟨trivial, fun h => h⟩)); (case h5 => exact HBR.out); (case h6 => exact HBR.out.size); (case h7 => have := Hlen.out; omega); intro v5 w5 hS5 hB5 hg5 hat5; have HS5 := Aside0.mk hS5; have HB5 := Aside0.mk hB5; clear hS5 hB5 hg5 hat5)
        go_roundg (M - (c + 1))
        case measure => omega
        case rel => exact ⟨c + 1, _, by omega, by omega, by go_num, rfl, ⟨by rw [← HPZ.out]; exact HS5.out⟩, HB5⟩
      · obtain HPZ := Aside0.mk (HPY.out false rfl)
        clear HPY
        go_wp2_with (at_builtin; refine S_append Kd.bool (w0 := w4) (W := wr) w4.heap.size rfl (.tmp 42) (.tmp 69) 82 4 (.bool false) 1 rfl hut infoB rfl (by decide) (by decide) u L false [.bool false] (fun _ => True) (fun _ => False) rfl rfl ?h1 ?h2 ?h3 ?h4 ?h5 ?h6 ?h7 ?_; (case h1 => rfl); (case h2 => exact fun k hk => hk.elim); (case h3 => exact fun _ _ => trivial); (case h4 => exact S_mono HS.out (fun k _ => ⟨trivial, fun h => h⟩)); (case h5 => exact HBR.out); (case h6 => exact HBR.out.size); (case h7 => have := Hlen.out; omega); intro v5 w5 hS5 hB5 hg5 hat5; have HS5 := Aside0.mk hS5; have HB5 := Aside0.mk hB5; clear hS5 hB5 hg5 hat5)
        go_roundg (M - (c + 1))
        case measure => omega
        case rel => exact ⟨c + 1, _, by omega, by omega, by go_num, rfl, ⟨by rw [← HPZ.out]; exact HS5.out⟩, HB5⟩
      · obtain HPZ := Aside0.mk (HPY.out true rfl)
        clear HPY
        go_wp2_with (at_builtin; refine S_append Kd.bool (w0 := w4) (W := wr) w4.heap.size rfl (.tmp 42) (.tmp 69) 82 4 (.bool false) 1 rfl hut infoB rfl (by decide) (by decide) u L true [.bool true] (fun _ => True) (fun _ => False) rfl rfl ?h1 ?h2 ?h3 ?h4 ?h5 ?h6 ?h7 ?_; (case h1 => rfl); (case h2 => exact fun k hk => hk.elim); (case h3 => exact fun _ _ => trivial); (case h4 => exact S_mono HS.out (fun k _ => ⟨trivial, fun h => h⟩)); (case h5 => exact HBR.out); (case h6 => exact HBR.out.size); (case h7 => have := Hlen.out; omega); intro v5 w5 hS5 hB5 hg5 hat5; have HS5 := Aside0.mk hS5; have HB5 := Aside0.mk hB5; clear hS5 hB5 hg5 hat5)
        go_roundg (M - (c + 1))
        case measure => omega
        case rel => exact ⟨c + 1, _, by omega, by omega, by go_num, rfl, ⟨by rw [← HPZ.out]; exact HS5.out⟩, HB5⟩
      · obtain HPZ := Aside0.mk (HPY.out false rfl)
        clear HPY
        go_wp2_with (at_builtin; refine S_append Kd.bool (w0 := w4) (W := wr) w4.heap.size rfl (.tmp 42) (.tmp 69) 82 4 (.bool false) 1 rfl hut infoB rfl (by decide) (by decide) u L false [.bool false] (fun _ => True) (fun _ => False) rfl rfl ?h1 ?h2 ?h3 ?h4 ?h5 ?h6 ?h7 ?_; (case h1 => rfl); (case h2 => exact fun k hk => hk.elim); (case h3 => exact fun _ _ => trivial); (case h4 => exact S_mono HS.out (fun k _ => ⟨trivial, fun h => h⟩)); (case h5 => exact HBR.out); (case h6 => exact HBR.out.size); (case h7 => have := Hlen.out; omega); intro v5 w5 hS5 hB5 hg5 hat5; have HS5 := Aside0.mk hS5; have HB5 := Aside0.mk hB5; clear hS5 hB5 hg5 hat5)
        go_roundg (M - (c + 1))
        case measure => omega
        case rel => exact ⟨c + 1, _, by omega, by omega, by go_num, rfl, ⟨by rw [← HPZ.out]; exact HS5.out⟩, HB5⟩
      · obtain HPZ := Aside0.mk (HPY.out true rfl)
        clear HPY
        go_wp2_with (at_builtin; refine S_append Kd.bool (w0 := w4) (W := wr) w4.heap.size rfl (.tmp 42) (.tmp 69) 82 4 (.bool false) 1 rfl hut infoB rfl (by decide) (by decide) u L true [.bool true] (fun _ => True) (fun _ => False) rfl rfl ?h1 ?h2 ?h3 ?h4 ?h5 ?h6 ?h7 ?_; (case h1 => rfl); (case h2 => exact fun k hk => hk.elim); (case h3 => exact fun _ _ => trivial); (case h4 => exact S_mono HS.out (fun k _ => ⟨trivial, fun h => h⟩)); (case h5 => exact HBR.out); (case h6 => exact HBR.out.size); (case h7 => have := Hlen.out; omega); intro v5 w5 hS5 hB5 hg5 hat5; have HS5 := Aside0.mk hS5; have HB5 := Aside0.mk hB5; clear hS5 hB5 hg5 hat5)
        go_roundg (M - (c + 1))
        case measure => omega
        case rel => exact ⟨c + 1, _, by omega, by omega, by go_num, rfl, ⟨by rw [← HPZ.out]; exact HS5.out⟩, HB5⟩
      · obtain HPZ := Aside0.mk (HPY.out true rfl)
        clear HPY
        go_wp2_with (at_builtin; refine S_append Kd.bool (w0 := w4) (W := wr) w4.heap.size rfl (.tmp 42) (.tmp 69) 82 4 (.bool false) 1 rfl hut infoB rfl (by decide) (by decide) u L true [.bool true] (fun _ => True) (fun _ => False) rfl rfl ?h1 ?h2 ?h3 ?h4 ?h5 ?h6 ?h7 ?_; (case h1 => rfl); (case h2 => exact fun k hk => hk.elim); (case h3 => exact fun _ _ => trivial); (case h4 => exact S_mono HS.out (fun k _ => ⟨trivial, fun h => h⟩)); (case h5 => exact HBR.out); (case h6 => exact HBR.out.size); (case h7 => have := Hlen.out; omega); intro v5 w5 hS5 hB5 hg5 hat5; have HS5 := Aside0.mk hS5; have HB5 := Aside0.mk hB5; clear hS5 hB5 hg5 hat5)
        go_roundg (M - (c + 1))
        case measure => omega
        case rel => exact ⟨c + 1, _, by omega, by omega, by go_num, rfl, ⟨by rw [← HPZ.out]; exact HS5.out⟩, HB5⟩
    · have hltz : ¬ (c : Int) < (M : Int) := by omega
      obtain rfl : c = M := by omega
      obtain ⟨A5, c5, rfl, hc5, hC5⟩ := S_reads HS.out
      have HFX := HFR wr A5 c5 hC5 hc5
      rw [HTL.out] at HFX
      have hlen : (tab (pairP b gs hs) c).length = c := HTL.out
      rw [hlen]
      clear hlen hC5 hc5 HFR
      have hf0 := pw_cell_below HBR.out (hold_of HI1d.out)
      go_wp2_with (fail)
      (refine HFX.mono ?_; clear hf0; rintro e w6 ⟨v6, rfl, hs6, hb6⟩; obtain ⟨A6, c6, rfl⟩ := S_slice hs6; have HS6 := Aside0.mk hs6; have HZ6 := Aside0.mk (blk_below (blk_below HZ4.out HBR.out) hb6); have HB6 := Aside0.mk (below_then (B := w0.heap.size) (below_then (B := w0.heap.size) HB4.out HB4.out.size HBR.out) (Nat.le_trans HB4.out.size HBR.out.size) hb6); have HK6 := Aside0.mk ((HK4.out.below HBR.out).below hb6); have HW6 := Aside0.mk (Nat.le_trans HK4.out.1 HBR.out.size); clear hs6 hb6)
      have z0 : w6.cell? ⟨w.heap.size, 0, none⟩ = some (.int .i64 0) := (blk_cell HZ6.out 0).trans rfl
      have z1 : w6.cell? ⟨w.heap.size, 1, none⟩ = some (.slice none 0 0) := (blk_cell HZ6.out 1).trans rfl
      have f0 := blk_frozen HZ6.out 0
      have f1 := blk_frozen HZ6.out 1
      go_wp2_with (fail)
      have p0 := fun a b => put0 (a := a) (b := b) HZ6.out
      have p1 := fun a b => put1 (a := a) (b := b) HZ6.out
      have hw0 : w0.heap.size ≤ w.heap.size := HWB.out.size
      subst hF
      refine bodyPost_ret (v := .tuple #[.agg #[.int .i64 (n : Int), .slice A6 (famN n (pairP b gs hs)).length c6], .int .i64 0]) (by simp [results, Try.results99, go_sem, p0, p1]) rfl ⟨_, rfl, S_put HZ6.out (S_lower HS6.out HW6.out), below_set (below_set HB6.out hw0) hw0, (HK6.out.setCell (.inr (Nat.le_refl _)) _).setCell (.inr (Nat.le_refl _)) _⟩

set_option maxHeartbeats 4000000 in
set_option maxRecDepth 100000 in
theorem pair_bad1 (b : Bool) (n m : Int) (gs hs : List (List Int)) (bf bg : Nat) (hne : bf ≠ bg) (w0 w : World) (hI1 : IsS27 w0 w bf n gs) (hI2 : IsS27 w0 w bg m hs) (hB : Below w0.heap.size w0 w) (h1 : ¬ ValidF n gs) :
    Calls Try.prog 99 #[.pointer (some ⟨bf, 0, none⟩), .pointer (some ⟨bg, 0, none⟩), .bool b] w (PairRes w0 w bf bg 0 [] 1) := by
  have hu := Try.underlying27
  have HOK1 := fun W hI hB => okS_calls bf n gs w0 W hI hB
  rw [decide_eq_false h1] at HOK1
  have HOK2 := fun W hI hB => okS_calls bg m hs w0 W hI hB
  have HI1 := Aside0.mk (hI1.alloc (.cells #[.int .i64 0, .slice none 0 0] 27))
  have HI2 := Aside0.mk (hI2.alloc (.cells #[.int .i64 0, .slice none 0 0] 27))
  have HB := Aside0.mk (hB.alloc hB.size (.cells #[.int .i64 0, .slice none 0 0] 27))
  have HZ := Aside0.mk (blk_new w (.cells #[.int .i64 0, .slice none 0 0] 27))
  have HWB := Aside0.mk hB
  clear hI1 hI2 hB hne h1
  go_enter Try.func99, Try.ntmps99
  go_wp2_with (fail)
  (refine (HOK1 _ HI1.out HB.out).mono ?_; rintro e w1 ⟨rfl, hb1⟩; have HI1a := Aside0.mk (HI1.out.below hb1); have HI2a := Aside0.mk (HI2.out.below hb1); have HZ1 := Aside0.mk (blk_below HZ.out hb1); have HB1 := Aside0.mk (below_then (B := w0.heap.size) HB.out HB.out.size hb1); have HK1 := Aside0.mk (Kept.of_below (below_then (B := w.heap.size) (below_alloc (Below.refl _ _) _) (by simp) hb1) (fun k => k = bf ∨ k = bg)); clear hb1)
  have z0 : w1.cell? ⟨w.heap.size, 0, none⟩ = some (.int .i64 0) := (blk_cell HZ1.out 0).trans rfl
  have z1 : w1.cell? ⟨w.heap.size, 1, none⟩ = some (.slice none 0 0) := (blk_cell HZ1.out 1).trans rfl
  have f0 := blk_frozen HZ1.out 0
  have f1 := blk_frozen HZ1.out 1
  go_wp2_with (fail)
  have p0 := fun a b => put0 (a := a) (b := b) HZ1.out
  have p1 := fun a b => put1 (a := a) (b := b) HZ1.out
  have hw0 : w0.heap.size ≤ w.heap.size := HWB.out.size
  refine bodyPost_ret (v := .tuple #[.agg #[.int .i64 0, .slice none 0 0], .int .i64 1]) (by simp [results, Try.results99, go_sem, p0, p1]) rfl ⟨_, rfl, S_nil _ _ _ _ _, below_set (below_set HB1.out hw0) hw0, (HK1.out.setCell (.inr (Nat.le_refl _)) _).setCell (.inr (Nat.le_refl _)) _⟩

set_option maxHeartbeats 4000000 in
set_option maxRecDepth 100000 in
theorem pair_bad2 (b : Bool) (n m : Int) (gs hs : List (List Int)) (bf bg : Nat) (hne : bf ≠ bg) (w0 w : World) (hI1 : IsS27 w0 w bf n gs) (hI2 : IsS27 w0 w bg m hs) (hB : Below w0.heap.size w0 w) (h1 : ValidF n gs) (h2 : ¬ ValidF m hs) :
    Calls Try.prog 99 #[.pointer (some ⟨bf, 0, none⟩), .pointer (some ⟨bg, 0, none⟩), .bool b] w (PairRes w0 w bf bg 0 [] 1) := by
  have hu := Try.underlying27
  have HOK1 := fun W hI hB => okS_calls bf n gs w0 W hI hB
  rw [decide_eq_true h1] at HOK1
  have HOK2 := fun W hI hB => okS_calls bg m hs w0 W hI hB
  rw [decide_eq_false h2] at HOK2
  have HI1 := Aside0.mk (hI1.alloc (.cells #[.int .i64 0, .slice none 0 0] 27))
  have HI2 := Aside0.mk (hI2.alloc (.cells #[.int .i64 0, .slice none 0 0] 27))
  have HB := Aside0.mk (hB.alloc hB.size (.cells #[.int .i64 0, .slice none 0 0] 27))
  have HZ := Aside0.mk (blk_new w (.cells #[.int .i64 0, .slice none 0 0] 27))
  have HWB := Aside0.mk hB
  clear hI1 hI2 hB hne h1 h2
  go_enter Try.func99, Try.ntmps99
  go_wp2_with (fail)
  (refine (HOK1 _ HI1.out HB.out).mono ?_; rintro e w1 ⟨rfl, hb1⟩; have HI1a := Aside0.mk (HI1.out.below hb1); have HI2a := Aside0.mk (HI2.out.below hb1); have HZ1 := Aside0.mk (blk_below HZ.out hb1); have HB1 := Aside0.mk (below_then (B := w0.heap.size) HB.out HB.out.size hb1); have HK1 := Aside0.mk (Kept.of_below (below_then (B := w.heap.size) (below_alloc (Below.refl _ _) _) (by simp) hb1) (fun k => k = bf ∨ k = bg)); clear hb1)
  go_wp2_with (fail)
  (refine (HOK2 _ HI2a.out HB1.out).mono ?_; rintro e w2 ⟨rfl, hb2⟩; have HI1b := Aside0.mk (HI1a.out.below hb2); have HI2b := Aside0.mk (HI2a.out.below hb2); have HZ2 := Aside0.mk (blk_below HZ1.out hb2); have HB2 := Aside0.mk (below_then (B := w0.heap.size) HB1.out HB1.out.size hb2); have HK2 := Aside0.mk (HK1.out.below hb2); clear hb2)
  have z0 : w2.cell? ⟨w.heap.size, 0, none⟩ = some (.int .i64 0) := (blk_cell HZ2.out 0).trans rfl
  have z1 : w2.cell? ⟨w.heap.size, 1, none⟩ = some (.slice none 0 0) := (blk_cell HZ2.out 1).trans rfl
  have f0 := blk_frozen HZ2.out 0
  have f1 := blk_frozen HZ2.out 1
  go_wp2_with (fail)
  have p0 := fun a b => put0 (a := a) (b := b) HZ2.out
  have p1 := fun a b => put1 (a := a) (b := b) HZ2.out
  have hw0 : w0.heap.size ≤ w.heap.size := HWB.out.size
  refine bodyPost_ret (v := .tuple #[.agg #[.int .i64 0, .slice none 0 0], .int .i64 1]) (by simp [results, Try.results99, go_sem, p0, p1]) rfl ⟨_, rfl, S_nil _ _ _ _ _, below_set (below_set HB2.out hw0) hw0, (HK2.out.setCell (.inr (Nat.le_refl _)) _).setCell (.inr (Nat.le_refl _)) _⟩

set_option maxHeartbeats 4000000 in
set_option maxRecDepth 100000 in
theorem pair_far (b : Bool) (n m : Int) (gs hs : List (List Int)) (bf bg : Nat) (hne : bf ≠ bg) (w0 w : World) (hI1 : IsS27 w0 w bf n gs) (hI2 : IsS27 w0 w bg m hs) (hB : Below w0.heap.size w0 w) (h1 : ValidF n gs) (h2 : ValidF m hs) (h3 : n ≠ m) :
    Calls Try.prog 99 #[.pointer (some ⟨bf, 0, none⟩), .pointer (some ⟨bg, 0, none⟩), .bool b] w (PairRes w0 w bf bg 0 [] 2) := by
  have hu := Try.underlying27
  have HOK1 := fun W hI hB => okS_calls bf n gs w0 W hI hB
  rw [decide_eq_true h1] at HOK1
  have HOK2 := fun W hI hB => okS_calls bg m hs w0 W hI hB
  rw [decide_eq_true h2] at HOK2
  have hnm : (n != m) = true := bne_iff_ne.2 h3
  have HI1 := Aside0.mk (hI1.alloc (.cells #[.int .i64 0, .slice none 0 0] 27))
  have HI2 := Aside0.mk (hI2.alloc (.cells #[.int .i64 0, .slice none 0 0] 27))
  have HB := Aside0.mk (hB.alloc hB.size (.cells #[.int .i64 0, .slice none 0 0] 27))
  have HZ := Aside0.mk (blk_new w (.cells #[.int .i64 0, .slice none 0 0] 27))
  have HWB := Aside0.mk hB
  clear hI1 hI2 hB hne h1 h2 h3
  go_enter Try.func99, Try.ntmps99
  go_wp2_with (fail)
  (refine (HOK1 _ HI1.out HB.out).mono ?_; rintro e w1 ⟨rfl, hb1⟩; have HI1a := Aside0.mk (HI1.out.below hb1); have HI2a := Aside0.mk (HI2.out.below hb1); have HZ1 := Aside0.mk (blk_below HZ.out hb1); have HB1 := Aside0.mk (below_then (B := w0.heap.size) HB.out HB.out.size hb1); have HK1 := Aside0.mk (Kept.of_below (below_then (B := w.heap.size) (below_alloc (Below.refl _ _) _) (by simp) hb1) (fun k => k = bf ∨ k = bg)); clear hb1)
  go_wp2_with (fail)
  (refine (HOK2 _ HI2a.out HB1.out).mono ?_; rintro e w2 ⟨rfl, hb2⟩; have HI1b := Aside0.mk (HI1a.out.below hb2); have HI2b := Aside0.mk (HI2a.out.below hb2); have HZ2 := Aside0.mk (blk_below HZ1.out hb2); have HB2 := Aside0.mk (below_then (B := w0.heap.size) HB1.out HB1.out.size hb2); have HK2 := Aside0.mk (HK1.out.below hb2); clear hb2)
  have hf0 := hold_of HI1b.out
  have hg0 := hold_of HI2b.out
  go_wp2_with (fail)
  go_quiet (fail)
  clear hf0 hg0
  have z0 : w2.cell? ⟨w.heap.size, 0, none⟩ = some (.int .i64 0) := (blk_cell HZ2.out 0).trans rfl
  have z1 : w2.cell? ⟨w.heap.size, 1, none⟩ = some (.slice none 0 0) := (blk_cell HZ2.out 1).trans rfl
  have f0 := blk_frozen HZ2.out 0
  have f1 := blk_frozen HZ2.out 1
  go_wp2_with (fail)
  have p0 := fun a b q => put0 (a := a) (b := b) (blk_drewN HZ2.out q)
  have p1 := fun a b q => put1 (a := a) (b := b) (blk_drewN HZ2.out q)
  have hw0 : w0.heap.size ≤ w.heap.size := HWB.out.size
  refine bodyPost_ret (v := .tuple #[.agg #[.int .i64 0, .slice none 0 0], .int .i64 2]) (by simp [results, Try.results99, go_sem, p0, p1]) rfl ⟨_, rfl, S_nil _ _ _ _ _, by repeat (first | exact HB2.out | apply pw_below_drewN | refine below_set ?_ hw0), by repeat (first | exact HK2.out | apply Kept.drewN | refine Kept.setCell ?_ (.inr (Nat.le_refl _)) _)⟩

/-- What l01Pair tells, as the program's functions do. -/
theorem pair_calls (b : Bool) (n m : Int) (gs hs : List (List Int)) (bf bg : Nat) (hne : bf ≠ bg) (w0 w : World) (hI1 : IsS27 w0 w bf n gs) (hI2 : IsS27 w0 w bg m hs) (hB : Below w0.heap.size w0 w) :
    Calls Try.prog 99 #[.pointer (some ⟨bf, 0, none⟩), .pointer (some ⟨bg, 0, none⟩), .bool b] w (PairRes w0 w bf bg (if twoC n gs m hs = 0 then n else 0) (if twoC n gs m hs = 0 then famN n.toNat (pairP b gs hs) else []) (twoC n gs m hs)) := by
  by_cases h1 : ValidF n gs
  · by_cases h2 : ValidF m hs
    · by_cases h3 : n = m
      · subst h3
        have e : twoC n gs n hs = 0 := by unfold twoC; rw [if_pos ⟨h1, h2⟩, if_pos rfl]
        rw [e, if_pos rfl, if_pos rfl]
        obtain ⟨k, rfl⟩ : ∃ k : Nat, n = (k : Int) := ⟨n.toNat, by have := h1.1; omega⟩
        rw [Int.toNat_natCast]
        exact pair_yes b k gs hs bf bg hne w0 w hI1 hI2 hB h1 h2
      · have e : twoC n gs m hs = 2 := by unfold twoC; rw [if_pos ⟨h1, h2⟩, if_neg h3]
        rw [e, if_neg (by decide), if_neg (by decide)]
        exact pair_far b n m gs hs bf bg hne w0 w hI1 hI2 hB h1 h2 h3
    · have e : twoC n gs m hs = 1 := by unfold twoC; rw [if_neg (fun h => h2 h.2)]
      rw [e, if_neg (by decide), if_neg (by decide)]
      exact pair_bad2 b n m gs hs bf bg hne w0 w hI1 hI2 hB h1 h2
  · have e : twoC n gs m hs = 1 := by unfold twoC; rw [if_neg (fun h => h1 h.1)]
    rw [e, if_neg (by decide), if_neg (by decide)]
    exact pair_bad1 b n m gs hs bf bg hne w0 w hI1 hI2 hB h1

/-- The boxes of two families and of a result. -/
def prW (w : World) (n : Int) (A : Option Addr) (cap : Nat) (gs : List (List Int)) (m : Int) (A' : Option Addr) (cap' : Nat) (hs : List (List Int)) : World :=
  ((w.alloc (.cells #[.int .i64 n, .slice A gs.length cap] 27)).alloc (.cells #[.int .i64 m, .slice A' hs.length cap'] 27)).alloc (.cells #[.int .i64 0, .slice none 0 0] 27)
theorem prW_size (w : World) (n : Int) (A : Option Addr) (cap : Nat) (gs : List (List Int)) (m : Int) (A' : Option Addr) (cap' : Nat) (hs : List (List Int)) : (prW w n A cap gs m A' cap' hs).heap.size = w.heap.size + 1 + 1 + 1 := by simp [prW]
theorem prW_below (w : World) (n : Int) (A : Option Addr) (cap : Nat) (gs : List (List Int)) (m : Int) (A' : Option Addr) (cap' : Nat) (hs : List (List Int)) : Below w.heap.size w (prW w n A cap gs m A' cap' hs) := below_alloc (below_alloc (below_alloc (Below.refl _ _) _) _) _
theorem prW_is (w : World) (n : Int) (A : Option Addr) (cap : Nat) (gs : List (List Int)) (m : Int) (A' : Option Addr) (cap' : Nat) (hs : List (List Int)) (hC : dR.C w A gs.length gs) (hC' : dR.C w A' hs.length hs) :
    IsS27 w (prW w n A cap gs m A' cap' hs) w.heap.size n gs ∧ IsS27 w (prW w n A cap gs m A' cap' hs) (w.heap.size + 1) m hs ∧ (prW w n A cap gs m A' cap' hs).heap[w.heap.size + 1 + 1]? = some (.cells #[.int .i64 0, .slice none 0 0] 27 (0, 0)) :=
  ⟨⟨A, cap, blk_alloc (blk_alloc (blk_new w _) _) _, Nat.le_refl _, hC⟩, ⟨A', cap', blk_alloc (blk_at (by simp)) _, Nat.le_succ _, hC'⟩, blk_at (by simp)⟩

set_option maxHeartbeats 2000000 in
theorem SEitherFamily_calls (n : Int) (A : Option Addr) (cap : Nat) (gs : List (List Int)) (m : Int) (A' : Option Addr) (cap' : Nat) (hs : List (List Int)) (w : World) (hC : dR.C w A gs.length gs) (hC' : dR.C w A' hs.length hs) :
    Calls Try.prog 55 #[.agg #[.int .i64 n, .slice A gs.length cap], .agg #[.int .i64 m, .slice A' hs.length cap']] w (FamRes w (if twoC n gs m hs = 0 then n else 0) (if twoC n gs m hs = 0 then famN n.toNat (pairP false gs hs) else []) (twoC n gs m hs)) := by
  have hu := Try.underlying27
  have HX := Aside0.mk (prW_is w n A cap gs m A' cap' hs hC hC')
  have HB := Aside0.mk (prW_below w n A cap gs m A' cap' hs)
  have HSZ := Aside0.mk (prW_size w n A cap gs m A' cap' hs)
  have HP := pair_calls false n m gs hs w.heap.size (w.heap.size + 1) (by omega) w _ HX.out.1 HX.out.2.1 HB.out
  clear hC hC'
  generalize (if twoC n gs m hs = 0 then n else 0) = r1 at *
  generalize (if twoC n gs m hs = 0 then famN n.toNat (pairP false gs hs) else []) = r2 at *
  generalize twoC n gs m hs = r3 at *
  go_enter Try.func55, Try.ntmps55
  go_wp2_with (fail)
  rw [show ((w.alloc (.cells #[.int .i64 n, .slice A gs.length cap] 27)).alloc (.cells #[.int .i64 m, .slice A' hs.length cap'] 27)).alloc (.cells #[.int .i64 0, .slice none 0 0] 27) = prW w n A cap gs m A' cap' hs from rfl]
  (refine HP.mono ?_; clear HP; rintro e w1 ⟨v1, rfl, hs1, hb1, hk1⟩; obtain ⟨A1, c1, rfl⟩ := S_slice hs1; have HS1 := Aside0.mk hs1; have HB1 := Aside0.mk hb1; have HZ1 := Aside0.mk (blk_kept HX.out.2.2 hk1 (by omega)); clear hs1 hb1 hk1)
  have z0 : w1.cell? ⟨w.heap.size + 1 + 1, 0, none⟩ = some (.int .i64 0) := (blk_cell HZ1.out 0).trans rfl
  have z1 : w1.cell? ⟨w.heap.size + 1 + 1, 1, none⟩ = some (.slice none 0 0) := (blk_cell HZ1.out 1).trans rfl
  have f0 := blk_frozen HZ1.out 0
  have f1 := blk_frozen HZ1.out 1
  go_wp2_with (fail)
  have p0 := fun a b => put0 (a := a) (b := b) HZ1.out
  have p1 := fun a b => put1 (a := a) (b := b) HZ1.out
  refine bodyPost_ret (v := .tuple #[.agg #[.int .i64 r1, .slice A1 r2.length c1], .int .i64 r3]) (by simp [results, Try.results55, go_sem, p0, p1]) rfl ⟨_, rfl, S_put HZ1.out (S_lower HS1.out (by have := HSZ.out; omega)), below_set (below_set HB1.out (by omega)) (by omega)⟩

set_option maxHeartbeats 2000000 in
theorem SBothFamilies_calls (n : Int) (A : Option Addr) (cap : Nat) (gs : List (List Int)) (m : Int) (A' : Option Addr) (cap' : Nat) (hs : List (List Int)) (w : World) (hC : dR.C w A gs.length gs) (hC' : dR.C w A' hs.length hs) :
    Calls Try.prog 54 #[.agg #[.int .i64 n, .slice A gs.length cap], .agg #[.int .i64 m, .slice A' hs.length cap']] w (FamRes w (if twoC n gs m hs = 0 then n else 0) (if twoC n gs m hs = 0 then famN n.toNat (pairP true gs hs) else []) (twoC n gs m hs)) := by
  have hu := Try.underlying27
  have HX := Aside0.mk (prW_is w n A cap gs m A' cap' hs hC hC')
  have HB := Aside0.mk (prW_below w n A cap gs m A' cap' hs)
  have HSZ := Aside0.mk (prW_size w n A cap gs m A' cap' hs)
  have HP := pair_calls true n m gs hs w.heap.size (w.heap.size + 1) (by omega) w _ HX.out.1 HX.out.2.1 HB.out
  clear hC hC'
  generalize (if twoC n gs m hs = 0 then n else 0) = r1 at *
  generalize (if twoC n gs m hs = 0 then famN n.toNat (pairP true gs hs) else []) = r2 at *
  generalize twoC n gs m hs = r3 at *
  go_enter Try.func54, Try.ntmps54
  go_wp2_with (fail)
  rw [show ((w.alloc (.cells #[.int .i64 n, .slice A gs.length cap] 27)).alloc (.cells #[.int .i64 m, .slice A' hs.length cap'] 27)).alloc (.cells #[.int .i64 0, .slice none 0 0] 27) = prW w n A cap gs m A' cap' hs from rfl]
  (refine HP.mono ?_; clear HP; rintro e w1 ⟨v1, rfl, hs1, hb1, hk1⟩; obtain ⟨A1, c1, rfl⟩ := S_slice hs1; have HS1 := Aside0.mk hs1; have HB1 := Aside0.mk hb1; have HZ1 := Aside0.mk (blk_kept HX.out.2.2 hk1 (by omega)); clear hs1 hb1 hk1)
  have z0 : w1.cell? ⟨w.heap.size + 1 + 1, 0, none⟩ = some (.int .i64 0) := (blk_cell HZ1.out 0).trans rfl
  have z1 : w1.cell? ⟨w.heap.size + 1 + 1, 1, none⟩ = some (.slice none 0 0) := (blk_cell HZ1.out 1).trans rfl
  have f0 := blk_frozen HZ1.out 0
  have f1 := blk_frozen HZ1.out 1
  go_wp2_with (fail)
  have p0 := fun a b => put0 (a := a) (b := b) HZ1.out
  have p1 := fun a b => put1 (a := a) (b := b) HZ1.out
  refine bodyPost_ret (v := .tuple #[.agg #[.int .i64 r1, .slice A1 r2.length c1], .int .i64 r3]) (by simp [results, Try.results54, go_sem, p0, p1]) rfl ⟨_, rfl, S_put HZ1.out (S_lower HS1.out (by have := HSZ.out; omega)), below_set (below_set HB1.out (by omega)) (by omega)⟩

theorem either_same (n : Int) (gs : List (List Int)) (m : Int) (hs : List (List Int)) : EitherFamilyF n gs m hs = ((if twoC n gs m hs = 0 then n else 0), (if twoC n gs m hs = 0 then famN n.toNat (pairP false gs hs) else []), twoC n gs m hs) := by
  unfold EitherFamilyF
  by_cases h : twoC n gs m hs = 0
  · rw [if_pos h, if_pos h, if_pos h, h, famN_congr (fun c _ => pair_either gs hs c)]
  · rw [if_neg h, if_neg h, if_neg h]
theorem both_same (n : Int) (gs : List (List Int)) (m : Int) (hs : List (List Int)) : BothFamiliesF n gs m hs = ((if twoC n gs m hs = 0 then n else 0), (if twoC n gs m hs = 0 then famN n.toNat (pairP true gs hs) else []), twoC n gs m hs) := by
  unfold BothFamiliesF
  by_cases h : twoC n gs m hs = 0
  · rw [if_pos h, if_pos h, if_pos h, h, famN_congr (fun c _ => pair_both gs hs c)]
  · rw [if_neg h, if_neg h, if_neg h]

end Go.Proofs.Ytmeaffkgnmgmeaa.SPair
