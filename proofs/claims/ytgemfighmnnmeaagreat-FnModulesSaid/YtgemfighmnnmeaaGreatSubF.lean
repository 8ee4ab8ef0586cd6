/- Contract of the program's ModuleFamily. Contracts of the program's ModuleFamily. -/
import Derived.Test.YtgemfighmnnmeaaGreatSub
import Derived.Deep.RegionHeld3
import Derived.BigQuiet
import Derived.Outline
namespace Go.Proofs.YtgemfighmnnmeaaGreat.SubF
open Go.RowKit Go.Lib Go.Proofs Go.Proofs.YtgemfighmnnmeaaGreatW.PrintWords Go.Proofs.YtgemfighmnnmeaaGreatW.PrintWords.Kd Go.Proofs.YtgemfighmnnmeaaGreatW.PrintLast Go.Proofs.YtgemfighmnnmeaaGreatW.PrintMore Go.Proofs.YtgemfighmnnmeaaGreat.G Go.Proofs.YtgemfighmnnmeaaGreat.Fam Go.Proofs.YtgemfighmnnmeaaGreat.Loops Go.Proofs.YtgemfighmnnmeaaGreat.Bits Go.Proofs.YtgemfighmnnmeaaGreat.Valid Go.Proofs.YtgemfighmnnmeaaGreat.FamLaw Go.Proofs.YtgemfighmnnmeaaGreat.Opens Go.Proofs.YtgemfighmnnmeaaGreat.Idx Go.Proofs.YtgemfighmnnmeaaGreat.Sorting Go.Proofs.YtgemfighmnnmeaaGreat.Crowds Go.Proofs.YtgemfighmnnmeaaGreat.FamOf Go.Proofs.YtgemfighmnnmeaaGreat.Ops Go.Proofs.YtgemfighmnnmeaaGreat.ModN Go.Proofs.YtgemfighmnnmeaaGreat.ModF Go.Proofs.YtgemfighmnnmeaaGreat.IsMod Go.Proofs.YtgemfighmnnmeaaGreat.Modules Go.Proofs.YtgemfighmnnmeaaGreat.Sub
set_option linter.unusedVariables false
set_option linter.unusedSimpArgs false

theorem keep3 {w W : World} {a1 a2 a3 : Addr} {v1 v2 v3 : Value} (h1 : w.cell? a1 = some v1) (h2 : w.cell? a2 = some v2) (h3 : w.cell? a3 = some v3) (hb : Below w.heap.size w W) : W.cell? a1 = some v1 ∧ W.cell? a2 = some v2 ∧ W.cell? a3 = some v3 ∧ Below w.heap.size w W := ⟨pw_cell_below hb h1, pw_cell_below hb h2, pw_cell_below hb h3, hb⟩
set_option maxHeartbeats 8000000 in
set_option maxRecDepth 100000 in
theorem sub1_calls (n : Nat) (A : Option Addr) (cap : Nat) (gs : List (List Int)) (hcap : gs.length ≤ cap) (hv : ValidF (n : Int) gs) (g : List Int) (hg : isGroupN n g) (A' AR : Option Addr) (cap' cR : Nat) (BR BF BG : Nat) (W : World) (hR : RowBox W BR AR cR (restG n g)) (hF : FamBox W BF (n : Int) A cap gs) (hG : RowBox W BG A' cap' g) (c : Nat) (hc : c < 2 ^ g.length) :
  Calls Tryz.prog 27 #[.int .u64 (c : Int), .pointer (some ⟨BR, 0, none⟩), .pointer (some ⟨BF, 0, none⟩), .pointer (some ⟨BG, 0, none⟩)] W fun e w' => e = .returned (.bool (subP n gs g c)) ∧ Below W.heap.size W w' := by
 have hu := Tryz.underlying26
 have hn : n ≤ 7 := by have := hv.1; omega
 have hgl := glen hn hg
 have hrl := glen hn (restG_is hn g)
 have hss := smalls_of hv
 have hsr := small_of hn (restG_is hn g)
 have hsg := small_of hn hg
 have hc128 : c < 128 := Nat.lt_of_lt_of_le hc (two_pow_le (by omega))
 have hx128 : ∀ d, spreadN (restG n g) d < 128 := fun d => Nat.lt_of_lt_of_le (spread_lt (restG_is hn g).1 d) (two_pow_le hn)
 have hy128 : spreadN g c < 128 := Nat.lt_of_lt_of_le (spread_lt hg.1 c) (two_pow_le hn)
 have HSG := fun W h1 => spread_calls A' cap' g hsg (by omega) c hc128 W h1 hG.2.2
 rw [← sub_is hv hg c]
 generalize restG n g = rs at *
 generalize hy : spreadN g c = y at *
 have HEV := fun W => everybody_calls rs.length (by omega) W
 obtain ⟨M, hM⟩ : ∃ M, 2 ^ rs.length = M + 1 := ⟨2 ^ rs.length - 1, by have := Nat.two_pow_pos rs.length; omega⟩
 have hM7 : M + 1 ≤ 128 := by rw [← hM]; exact two_pow_le (by omega)
 rw [hM, Nat.add_sub_cancel] at HEV
 rw [hM]
 have HSP := fun d (hd : d ≤ M) W h1 => spread_calls AR cR rs hsr (by omega) d (by omega) W h1 hR.2.2
 have HOP := fun d (hd : d < 128) W h => opens_calls (n : Int) A cap gs d W h hcap hss hd
 have CR := Aside0.mk hR
 have CF := Aside0.mk hF
 have CG := Aside0.mk hG
 have HX := Aside0.mk hx128
 have HY := Aside0.mk hy128
 clear hR hF hG hv hg hss hsr hsg hM hx128 hy128 hy hc
 go_enter Tryz.func27, Tryz.ntmps27
 go_wp2_with (fail)
 go_loopg [6] (M + 1) (fun gg v6 wr => ∃ d : Nat, d ≤ M + 1 ∧ M + 1 - d ≤ gg ∧ v6 = .int .u64 (d : Int) ∧ Aside0 (Below W.heap.size W wr) ∧ Aside0 (∀ e, e < d → subAt gs rs y e = false))
 case atStart => exact ⟨0, Nat.zero_le _, by omega, rfl, ⟨Below.refl _ _⟩, ⟨fun e he => absurd he (Nat.not_lt_zero _)⟩⟩
 case round =>
  obtain ⟨d, hdM, hgg, rfl, HB, HA⟩ := hrel
  have ER := Aside0.mk (CR.out.later HB.out)
  have EF := Aside0.mk (CF.out.later HB.out)
  have EG := Aside0.mk (CG.out.later HB.out)
  have ECF : Aside0 (dR.C wr A gs.length gs) := ⟨EF.out.2.2⟩
  have cr0 := ER.out.1
  have cf0 := EF.out.1
  have cf1 := EF.out.2.1
  have cg0 := EG.out.1
  by_cases hlt : d ≤ M
  ·
   have hle : (d : Int) ≤ (M : Int) := by omega
   have HS := HSP d hlt
   have hat : subAt gs rs y d = (!openN gs (spreadN rs d) && openN gs (spreadN rs d ||| y)) := rfl
   have hx := HX.out d
   generalize spreadN rs d = x at *
   have H1 := HOP x hx
   have H2 := HOP (x ||| y) (or128 hx HY.out)
   have hor := u64_or_nat x y (by omega) (by have := HY.out; omega)
   cases hp : openN gs x with
   | true =>
    rw [hp] at hat H1
    have HAT := Aside0.mk hat
    clear hat hp H2 hor
    go_wp2_with (first | (go_at_call 28; refine (HEV _).mono ?_; rintro e w' ⟨rfl, qe, rfl⟩) | (go_at_call 29; refine (HS _ (by repeat (first | exact ER.out.2.1 | apply C_drewN | apply C_drew))).mono ?_; rintro e w' ⟨rfl, qs, rfl⟩))
    first | (go_region_with (first | (go_at_call 30; (with_reducible refine (H1 _ (C_below ECF.out ?_)).mono ?_); (repeat (first | assumption | exact Below.refl _ _ | apply below_drew | apply pw_below_drewN)); rintro e w9 ⟨rfl, hb9⟩; have HB9 := below_then (B := wr.heap.size) (show Below wr.heap.size wr _ from by repeat (first | assumption | exact Below.refl _ _ | apply below_drew | apply pw_below_drewN)) (by simp) hb9; clear hb9))) | fail
    all_goals (
     go_wp2_with (fail)
     go_roundg (M + 1 - (d + 1))
     case measure => omega
     case rel =>
      refine ⟨d + 1, by omega, by omega, by go_num, ⟨below_then HB.out HB.out.size HB9⟩, ⟨fun e he => ?_⟩⟩
      rcases Nat.lt_succ_iff_lt_or_eq.1 he with h | h
      ·
       exact HA.out e h
      ·
       subst h; rw [HAT.out]; rfl)
   | false =>
    cases hq : openN gs (x ||| y) with
    | false =>
     rw [hp, hq] at hat
     rw [hp] at H1
     rw [hq] at H2
     have HAT := Aside0.mk hat
     clear hat hp hq
     go_wp2_with (first | (go_at_call 28; refine (HEV _).mono ?_; rintro e w' ⟨rfl, qe, rfl⟩) | (go_at_call 29; refine (HS _ (by repeat (first | exact ER.out.2.1 | apply C_drewN | apply C_drew))).mono ?_; rintro e w' ⟨rfl, qs, rfl⟩))
     go_region_held3 (fun V => V.cell? ⟨BF, 0, none⟩ = some (.int .i64 (n : Int)) ∧ V.cell? ⟨BF, 1, none⟩ = some (.slice A gs.length cap) ∧ V.cell? ⟨BG, 0, none⟩ = some (.slice A' g.length cap') ∧ Below wr.heap.size wr V) ((refine keep3 EF.out.1 EF.out.2.1 EG.out.1 ?_; repeat (first | assumption | exact Below.refl _ _ | apply below_drew | apply pw_below_drewN))) (first | (go_at_call 30; (with_reducible refine (H1 _ (C_below ECF.out ?_)).mono ?_); (repeat (first | assumption | exact Below.refl _ _ | apply below_drew | apply pw_below_drewN)); rintro e w9 ⟨rfl, hb9⟩; have HB9 := below_then (B := wr.heap.size) (show Below wr.heap.size wr _ from by repeat (first | assumption | exact Below.refl _ _ | apply below_drew | apply pw_below_drewN)) (by simp) hb9; clear hb9) | (go_at_call 29; refine (HSG _ (Kd.C_below EG.out.2.1 ?_)).mono ?_; (repeat (first | assumption | exact Below.refl _ _ | apply below_drew | apply pw_below_drewN)); rintro e w' ⟨rfl, qg, rfl⟩) | (go_at_call 30; (with_reducible refine (H2 _ (C_below ECF.out ?_)).mono ?_); (repeat (first | assumption | exact Below.refl _ _ | apply below_drew | apply pw_below_drewN)); rintro e w10 ⟨rfl, hb10⟩; have HB10 := below_then (B := wr.heap.size) (show Below wr.heap.size wr _ from by repeat (first | assumption | exact Below.refl _ _ | apply below_drew | apply pw_below_drewN)) (by have h_ := HB9.size; (try simp at h_ ⊢); omega) hb10; clear hb10))
     go_wp2_with (fail)
     go_roundg (M + 1 - (d + 1))
     case measure => omega
     case rel =>
      refine ⟨d + 1, by omega, by omega, by go_num, ⟨below_then HB.out HB.out.size HB10⟩, ⟨fun e he => ?_⟩⟩
      rcases Nat.lt_succ_iff_lt_or_eq.1 he with h | h
      ·
       exact HA.out e h
      ·
       subst h; rw [HAT.out]; rfl
    | true =>
     rw [hp, hq] at hat
     rw [hp] at H1
     rw [hq] at H2
     have HAT := Aside0.mk hat
     clear hat hp hq
     go_wp2_with (first | (go_at_call 28; refine (HEV _).mono ?_; rintro e w' ⟨rfl, qe, rfl⟩) | (go_at_call 29; refine (HS _ (by repeat (first | exact ER.out.2.1 | apply C_drewN | apply C_drew))).mono ?_; rintro e w' ⟨rfl, qs, rfl⟩))
     go_region_held3 (fun V => V.cell? ⟨BF, 0, none⟩ = some (.int .i64 (n : Int)) ∧ V.cell? ⟨BF, 1, none⟩ = some (.slice A gs.length cap) ∧ V.cell? ⟨BG, 0, none⟩ = some (.slice A' g.length cap') ∧ Below wr.heap.size wr V) ((refine keep3 EF.out.1 EF.out.2.1 EG.out.1 ?_; repeat (first | assumption | exact Below.refl _ _ | apply below_drew | apply pw_below_drewN))) (first | (go_at_call 30; (with_reducible refine (H1 _ (C_below ECF.out ?_)).mono ?_); (repeat (first | assumption | exact Below.refl _ _ | apply below_drew | apply pw_below_drewN)); rintro e w9 ⟨rfl, hb9⟩; have HB9 := below_then (B := wr.heap.size) (show Below wr.heap.size wr _ from by repeat (first | assumption | exact Below.refl _ _ | apply below_drew | apply pw_below_drewN)) (by simp) hb9; clear hb9) | (go_at_call 29; refine (HSG _ (Kd.C_below EG.out.2.1 ?_)).mono ?_; (repeat (first | assumption | exact Below.refl _ _ | apply below_drew | apply pw_below_drewN)); rintro e w' ⟨rfl, qg, rfl⟩) | (go_at_call 30; (with_reducible refine (H2 _ (C_below ECF.out ?_)).mono ?_); (repeat (first | assumption | exact Below.refl _ _ | apply below_drew | apply pw_below_drewN)); rintro e w10 ⟨rfl, hb10⟩; have HB10 := below_then (B := wr.heap.size) (show Below wr.heap.size wr _ from by repeat (first | assumption | exact Below.refl _ _ | apply below_drew | apply pw_below_drewN)) (by have h_ := HB9.size; (try simp at h_ ⊢); omega) hb10; clear hb10))
     go_wp2_with (fail)
     go_ret
     refine ⟨?_, below_then HB.out HB.out.size HB10⟩
     rw [show (List.range (M + 1)).any (subAt gs rs y) = true from List.any_eq_true.2 ⟨d, List.mem_range.2 (by omega), by rw [HAT.out]; rfl⟩]
     rfl
  ·
   obtain rfl : d = M + 1 := by omega
   have hle : ¬ (((M + 1 : Nat) : Int) ≤ (M : Int)) := by omega
   go_wp2_with (go_at_call 28; refine (HEV _).mono ?_; rintro e w' ⟨rfl, qe, rfl⟩)
   go_ret
   refine ⟨?_, pw_below_drewN HB.out _⟩
   rw [show (List.range (M + 1)).any (subAt gs rs y) = false from List.any_eq_false.2 (fun e he => by rw [HA.out e (List.mem_range.1 he)]; simp)]
   rfl

end Go.Proofs.YtgemfighmnnmeaaGreat.SubF

namespace Go.Proofs.YtgemfighmnnmeaaGreat.SubM
open Go.RowKit Go.Lib Go.Proofs Go.Proofs.YtgemfighmnnmeaaGreatW.PrintWords Go.Proofs.YtgemfighmnnmeaaGreatW.PrintWords.Kd Go.Proofs.YtgemfighmnnmeaaGreatW.PrintLast Go.Proofs.YtgemfighmnnmeaaGreatW.PrintMore Go.Proofs.YtgemfighmnnmeaaGreat.G Go.Proofs.YtgemfighmnnmeaaGreat.Fam Go.Proofs.YtgemfighmnnmeaaGreat.Loops Go.Proofs.YtgemfighmnnmeaaGreat.Bits Go.Proofs.YtgemfighmnnmeaaGreat.Valid Go.Proofs.YtgemfighmnnmeaaGreat.FamLaw Go.Proofs.YtgemfighmnnmeaaGreat.Opens Go.Proofs.YtgemfighmnnmeaaGreat.Idx Go.Proofs.YtgemfighmnnmeaaGreat.Sorting Go.Proofs.YtgemfighmnnmeaaGreat.Crowds Go.Proofs.YtgemfighmnnmeaaGreat.FamOf Go.Proofs.YtgemfighmnnmeaaGreat.Ops Go.Proofs.YtgemfighmnnmeaaGreat.ModN Go.Proofs.YtgemfighmnnmeaaGreat.ModF Go.Proofs.YtgemfighmnnmeaaGreat.IsMod Go.Proofs.YtgemfighmnnmeaaGreat.Modules Go.Proofs.YtgemfighmnnmeaaGreat.Sub Go.Proofs.YtgemfighmnnmeaaGreat.SubF
set_option linter.unusedVariables false
set_option linter.unusedSimpArgs false

set_option maxHeartbeats 4000000 in
set_option maxRecDepth 100000 in
theorem ModuleFamily_bad (n : Int) (A : Option Addr) (cap : Nat) (gs : List (List Int)) (A' : Option Addr) (cap' : Nat) (g : List Int) (w : World) (hC : dR.C w A gs.length gs) (hcap : gs.length ≤ cap) (hC' : Kd.C (Kd.int .i64) w A' g.length g) (hcap' : g.length ≤ cap') (code : Int) (hm : modCode n gs g = code) (hc : code = 1 ∨ code = 2 ∨ code = 4) :
  Calls Tryz.prog 8 #[.agg #[.int .i64 n, .slice A gs.length cap], .slice A' g.length cap'] w (FamRes w 0 [] code) := by
 have hu := Tryz.underlying26
 have HV := fun W h h' => modCode_calls n A cap gs A' cap' g W h hcap h' hcap'
 rw [hm] at HV
 have HBX := Aside0.mk (subW_boxes w n A cap gs A' cap' g hC hC' hcap')
 have HWB := Aside0.mk (subW_below w n A cap gs A' cap' g)
 have HWS := Aside0.mk (subW_size w n A cap gs A' cap' g)
 have HCW := Aside0.mk (C_below hC HWB.out)
 have HGW := Aside0.mk (Kd.C_below hC' HWB.out)
 clear hC hC' hm
 rcases hc with rfl | rfl | rfl
 all_goals (
  go_enter Tryz.func8, Tryz.ntmps8
  go_wp2_with (fail)
  rw [show ((w.alloc (.cells #[.int .i64 n, .slice A gs.length cap] 26)).alloc (.cells #[.slice A' g.length cap'] 27)).alloc (.cells #[.int .i64 0, .slice none 0 0] 26) = subW w n A cap gs A' cap' g from rfl]
  go_wp2_with (go_at_call 24; refine (HV _ (C_below HCW.out ?_) (Kd.C_below HGW.out ?_)).mono ?_; (repeat (first | exact Below.refl _ _ | apply below_drew | apply pw_below_drewN)); rintro e w1 ⟨rfl, hb1⟩; have HB1 := Aside0.mk (below_then (B := (subW w n A cap gs A' cap' g).heap.size) (show Below (subW w n A cap gs A' cap' g).heap.size (subW w n A cap gs A' cap' g) _ from by repeat (first | exact Below.refl _ _ | apply below_drew | apply pw_below_drewN)) (by simp) hb1); clear hb1; have HX := Aside0.mk (HBX.out w1 HB1.out); have cf0 := HX.out.1.1; have cf1 := HX.out.1.2.1; have cg0 := HX.out.2.1.1; have z0 : w1.cell? ⟨w.heap.size + 1 + 1, 0, none⟩ = some (.int .i64 0) := (blk_cell HX.out.2.2 0).trans rfl; have z1 : w1.cell? ⟨w.heap.size + 1 + 1, 1, none⟩ = some (.slice none 0 0) := (blk_cell HX.out.2.2 1).trans rfl; have f0 := blk_frozen HX.out.2.2 0; have f1 := blk_frozen HX.out.2.2 1)
  have HZ := Aside0.mk HX.out.2.2
  have p0 := fun a b => put0 (a := a) (b := b) HZ.out
  have p1 := fun a b => put1 (a := a) (b := b) HZ.out
  have h1 : Below w.heap.size w w1 := below_then HWB.out (by have := HWS.out; omega) HB1.out
  refine bodyPost_ret (v := .tuple #[.agg #[.int .i64 0, .slice none 0 0], .int .i64 _]) (by simp [results, Tryz.results8, go_sem, p0, p1]) rfl ⟨_, rfl, S_nil _ _ _ _ _, ?_⟩
  exact below_set (below_set h1 (by omega)) (by omega))

set_option maxHeartbeats 4000000 in
set_option maxRecDepth 100000 in
theorem ModuleFamily_yes (n : Nat) (A : Option Addr) (cap : Nat) (gs : List (List Int)) (A' : Option Addr) (cap' : Nat) (g : List Int) (w : World) (hC : dR.C w A gs.length gs) (hcap : gs.length ≤ cap) (hC' : Kd.C (Kd.int .i64) w A' g.length g) (hcap' : g.length ≤ cap') (hm : modCode (n : Int) gs g = 0) (hv : ValidF (n : Int) gs) (hg : isGroupN n g) :
  Calls Tryz.prog 8 #[.agg #[.int .i64 (n : Int), .slice A gs.length cap], .slice A' g.length cap'] w (FamRes w (g.length : Int) (famN g.length (subP n gs g)) 0) := by
 have hu := Tryz.underlying26
 have hn : n ≤ 7 := by have := hv.1; omega
 have hgl := glen hn hg
 have eg : ∀ args w, (callFunc 27 args).run Tryz.prog w = .ok (.enter 27 args) w := enters_of Tryz.func27 (by kernel_rfl) rfl
 have HV := fun W h h' => modCode_calls (n : Int) A cap gs A' cap' g W h hcap h' hcap'
 rw [hm] at HV
 have hO := fun W h => others_calls hn A' cap' hg W h hcap'
 have HF := fun W BR AR cR (hR : RowBox W BR AR cR (restG n g)) (hF : FamBox W w.heap.size (n : Int) A cap gs) (hG : RowBox W (w.heap.size + 1) A' cap' g) => familyOf_calls g.length (by omega) 27 #[] #[.pointer (some ⟨BR, 0, none⟩), .pointer (some ⟨w.heap.size, 0, none⟩), .pointer (some ⟨w.heap.size + 1, 0, none⟩)] eg (subP n gs g) W
  (fun W' c hbw hc => sub1_calls n A cap gs hcap hv g hg A' AR cap' cR BR w.heap.size (w.heap.size + 1) W' (hR.later hbw) (hF.later hbw) (hG.later hbw) c hc)
 generalize hFF : famN g.length (subP n gs g) = F at *
 have HFF := Aside0.mk hFF
 have HBX := Aside0.mk (subW_boxes w (n : Int) A cap gs A' cap' g hC hC' hcap')
 have HWB := Aside0.mk (subW_below w (n : Int) A cap gs A' cap' g)
 have HWS := Aside0.mk (subW_size w (n : Int) A cap gs A' cap' g)
 have HCW := Aside0.mk (C_below hC HWB.out)
 have HGW := Aside0.mk (Kd.C_below hC' HWB.out)
 clear hC hC' hm hFF hg hv
 go_enter Tryz.func8, Tryz.ntmps8
 go_wp2_with (fail)
 rw [show ((w.alloc (.cells #[.int .i64 (n : Int), .slice A gs.length cap] 26)).alloc (.cells #[.slice A' g.length cap'] 27)).alloc (.cells #[.int .i64 0, .slice none 0 0] 26) = subW w (n : Int) A cap gs A' cap' g from rfl]
 go_wp2_with (go_at_call 24; refine (HV _ (C_below HCW.out ?_) (Kd.C_below HGW.out ?_)).mono ?_; (repeat (first | exact Below.refl _ _ | apply below_drew | apply pw_below_drewN)); rintro e w1 ⟨rfl, hb1⟩; have HB1 := Aside0.mk (below_then (B := (subW w (n : Int) A cap gs A' cap' g).heap.size) (show Below (subW w (n : Int) A cap gs A' cap' g).heap.size (subW w (n : Int) A cap gs A' cap' g) _ from by repeat (first | exact Below.refl _ _ | apply below_drew | apply pw_below_drewN)) (by simp) hb1); clear hb1; have HX := Aside0.mk (HBX.out w1 HB1.out); have cf0 := HX.out.1.1; have cf1 := HX.out.1.2.1; have cg0 := HX.out.2.1.1)
 clear cf0 cf1 cg0
 (refine (hO _ (Kd.C_below HX.out.2.1.2.1 ?_)).mono ?_; (repeat (first | exact Below.refl _ _ | apply below_drew | apply pw_below_drewN)); rintro e w3 ⟨v3, rfl, hr3, hb3⟩; obtain ⟨A3, c3, rfl⟩ := R_slice hr3)
 have HB3 := Aside0.mk (below_then (B := (subW w (n : Int) A cap gs A' cap' g).heap.size) (show Below (subW w (n : Int) A cap gs A' cap' g).heap.size (subW w (n : Int) A cap gs A' cap' g) _ from by repeat (first | exact HB1.out | apply below_drew | apply pw_below_drewN)) (by have h_ := HB1.out.size; (try simp at h_ ⊢); omega) hb3)
 have HR3 := Aside0.mk (R_reads' hr3)
 clear hr3 hb3
 obtain ⟨W5, hW5⟩ : ∃ W5 : World, W5 = w3.alloc (.cells #[.slice A3 (restG n g).length c3] 27) := ⟨_, rfl⟩
 have HB5 := Aside0.mk (show Below (subW w (n : Int) A cap gs A' cap' g).heap.size (subW w (n : Int) A cap gs A' cap' g) W5 by rw [hW5]; exact below_alloc HB3.out _)
 have HX5 := Aside0.mk (HBX.out W5 HB5.out)
 have HR5 : Aside0 (RowBox W5 w3.heap.size A3 c3 (restG n g)) := ⟨by rw [hW5]; exact ⟨(blk_cell (blk_new w3 _) 0).trans rfl, Kd.C_alloc HR3.out.2.2 _, HR3.out.2.1⟩⟩
 have HW5 := Aside0.mk hW5
 clear hW5
 have cg0 := HX5.out.2.1.1
 have cf0 := HX5.out.1.1
 have cf1 := HX5.out.1.2.1
 have HF5 := HF W5 w3.heap.size A3 c3 HR5.out HX5.out.1 HX5.out.2.1
 clear HF
 go_wp2_with (first | (rw [← HW5.out]; fail) | (rw [← HW5.out]) | fail)
 (refine HF5.mono ?_; clear HF5; rintro e w6 ⟨v6, rfl, hs6, hb6⟩; obtain ⟨A6, c6, rfl⟩ := S_slice hs6; have HS6 := Aside0.mk hs6; have HB6 := Aside0.mk (below_then HB5.out HB5.out.size hb6); clear hs6 hb6 cf0 cf1 cg0)
 have HZ := Aside0.mk (HBX.out _ HB6.out).2.2
 have z0 : w6.cell? ⟨w.heap.size + 1 + 1, 0, none⟩ = some (.int .i64 0) := (blk_cell HZ.out 0).trans rfl
 have z1 : w6.cell? ⟨w.heap.size + 1 + 1, 1, none⟩ = some (.slice none 0 0) := (blk_cell HZ.out 1).trans rfl
 have f0 := blk_frozen HZ.out 0
 have f1 := blk_frozen HZ.out 1
 go_wp2_with (fail)
 have p0 := fun a b => put0 (a := a) (b := b) HZ.out
 have p1 := fun a b => put1 (a := a) (b := b) HZ.out
 refine bodyPost_ret (v := .tuple #[.agg #[.int .i64 (g.length : Int), .slice A6 F.length c6], .int .i64 0]) (by simp [results, Tryz.results8, go_sem, p0, p1]) rfl ⟨_, rfl, S_put HZ.out (S_lower HS6.out (below_then HWB.out HWB.out.size HB5.out).size), ?_⟩
 exact below_set (below_set (below_then HWB.out HWB.out.size HB6.out) (by omega)) (by omega)

/-- What ModuleFamily answers. -/
def SubRes (n : Int) (gs : List (List Int)) (g : List Int) : Int × List (List Int) × Int :=
 if modCode n gs g = 0 then ((g.length : Int), famN g.length (subP n.toNat gs g), 0) else (0, [], modCode n gs g)
theorem ModuleFamily_calls (n : Int) (A : Option Addr) (cap : Nat) (gs : List (List Int)) (A' : Option Addr) (cap' : Nat) (g : List Int) (w : World) (hC : dR.C w A gs.length gs) (hcap : gs.length ≤ cap) (hC' : Kd.C (Kd.int .i64) w A' g.length g) (hcap' : g.length ≤ cap') :
  Calls Tryz.prog 8 #[.agg #[.int .i64 n, .slice A gs.length cap], .slice A' g.length cap'] w (FamRes w (SubRes n gs g).1 (SubRes n gs g).2.1 (SubRes n gs g).2.2) := by
 unfold SubRes
 rcases modCode_cases n gs g with ⟨h0, hv, hg, _⟩ | hc
 ·
  rw [if_pos h0]
  have hr := hv.1
  obtain ⟨m, rfl⟩ : ∃ m : Nat, n = (m : Int) := ⟨n.toNat, by omega⟩
  rw [Int.toNat_natCast] at *
  exact ModuleFamily_yes m A cap gs A' cap' g w hC hcap hC' hcap' h0 hv hg
 ·
  rw [if_neg (by omega)]
  exact ModuleFamily_bad n A cap gs A' cap' g w hC hcap hC' hcap' _ rfl hc

end Go.Proofs.YtgemfighmnnmeaaGreat.SubM
