/- Contract of PutFamily at any arguments. -/
import Derived.Test.YtgemfighmnnmeaaGreatPut
namespace Go.Proofs.YtgemfighmnnmeaaGreat.PutErr
open Go.RowKit Go.Proofs.YtgemfighmnnmeaaGreat.Put Go.Proofs.YtgemfighmnnmeaaGreatW.PrintWords Go.Proofs.YtgemfighmnnmeaaGreatW.PrintWords.Kd Go.Proofs.YtgemfighmnnmeaaGreatW.PrintLast Go.Proofs.YtgemfighmnnmeaaGreatW.PrintMore Go.Proofs.YtgemfighmnnmeaaGreat.G Go.Proofs.YtgemfighmnnmeaaGreat.Fam Go.Proofs.YtgemfighmnnmeaaGreat.Bits Go.Proofs.YtgemfighmnnmeaaGreat.Loops Go.Proofs.YtgemfighmnnmeaaGreat.Valid Go.Proofs.YtgemfighmnnmeaaGreat.Opens Go.Proofs.YtgemfighmnnmeaaGreat.Idx Go.Proofs.YtgemfighmnnmeaaGreat.Sorting Go.Proofs.YtgemfighmnnmeaaGreat.Crowds Go.Proofs.YtgemfighmnnmeaaGreat.FamOf Go.Proofs.YtgemfighmnnmeaaGreat.Ops Go.Proofs.YtgemfighmnnmeaaGreat.Leave
set_option linter.unusedVariables false
set_option linter.unusedSimpArgs false

theorem shl1u_all : ∀ h : Fin 7, ∀ c : Fin 128, Go.bits .or .u64 ((c.val : Nat) : Int) (IntKind.u64.wrap (2 ^ h.val)) = ((c.val ||| 1 <<< h.val : Nat) : Int) := by decide +kernel
set_option maxHeartbeats 4000000 in
set_option maxRecDepth 100000 in
theorem put_bad (n : Int) (A : Option Addr) (cap : Nat) (gs : List (List Int)) (h m : Int) (A' : Option Addr) (cap' : Nat) (hs : List (List Int)) (w : World) (hC : dR.C w A gs.length gs) (hcap : gs.length ≤ cap) (hC' : dR.C w A' hs.length hs) (hcap' : hs.length ≤ cap') (hv : ¬ ValidF n gs) :
  Calls Tryz.prog 10 #[.agg #[.int .i64 n, .slice A gs.length cap], .int .i64 h, .agg #[.int .i64 m, .slice A' hs.length cap']] w (FamRes w 0 [] 1) := by
 have hu := Tryz.underlying26
 have HV := fun W h => valid_calls n A cap gs W h hcap
 rw [decide_eq_false hv] at HV
 have HBX := Aside0.mk (putW_boxes w n A cap gs h m A' cap' hs hC hC')
 have HWB := Aside0.mk (putW_below w n A cap gs h m A' cap' hs)
 have HWS := Aside0.mk (putW_size w n A cap gs h m A' cap' hs)
 have HC := Aside0.mk (C_below hC HWB.out)
 have HC' := Aside0.mk (C_below hC' HWB.out)
 clear hC hC' hcap hcap' hv
 go_enter Tryz.func10, Tryz.ntmps10
 go_wp2_with (fail)
 rw [show (((w.alloc (.cells #[.int .i64 n, .slice A gs.length cap] 26)).alloc (.cells #[.int .i64 h] 2)).alloc (.cells #[.int .i64 m, .slice A' hs.length cap'] 26)).alloc (.cells #[.int .i64 0, .slice none 0 0] 26) = putW w n A cap gs h m A' cap' hs from rfl]
 (refine (HV _ HC.out).mono ?_; rintro e w1 ⟨rfl, hb1⟩; have HX := Aside0.mk (HBX.out w1 hb1); have cg0 := HX.out.2.2.1.1; have cg1 := HX.out.2.2.1.2.1; have HB := Aside0.mk hb1; clear hb1)
 clear cg0 cg1
 have HZ := Aside0.mk (HBX.out w1 HB.out).2.2.2
 have z0 : w1.cell? ⟨w.heap.size + 1 + 1 + 1, 0, none⟩ = some (.int .i64 0) := (blk_cell HZ.out 0).trans rfl
 have z1 : w1.cell? ⟨w.heap.size + 1 + 1 + 1, 1, none⟩ = some (.slice none 0 0) := (blk_cell HZ.out 1).trans rfl
 have f0 := blk_frozen HZ.out 0
 have f1 := blk_frozen HZ.out 1
 go_wp2_with (fail)
 have p0 := fun a b => put0 (a := a) (b := b) HZ.out
 have p1 := fun a b => put1 (a := a) (b := b) HZ.out
 have hws : w.heap.size ≤ (putW w n A cap gs h m A' cap' hs).heap.size := by have := HWS.out; omega
 refine bodyPost_ret (v := .tuple #[.agg #[.int .i64 0, .slice none 0 0], .int .i64 1]) (by simp [results, Tryz.results10, go_sem, p0, p1]) rfl ⟨_, rfl, S_nil _ _ _ _ _, ?_⟩
 exact below_set (below_set (below_then HWB.out hws HB.out) (by omega)) (by omega)
set_option maxHeartbeats 4000000 in
set_option maxRecDepth 100000 in
theorem put_bad2 (n : Int) (A : Option Addr) (cap : Nat) (gs : List (List Int)) (h m : Int) (A' : Option Addr) (cap' : Nat) (hs : List (List Int)) (w : World) (hC : dR.C w A gs.length gs) (hcap : gs.length ≤ cap) (hC' : dR.C w A' hs.length hs) (hcap' : hs.length ≤ cap') (hv : ValidF n gs) (hv' : ¬ ValidF m hs) :
  Calls Tryz.prog 10 #[.agg #[.int .i64 n, .slice A gs.length cap], .int .i64 h, .agg #[.int .i64 m, .slice A' hs.length cap']] w (FamRes w 0 [] 1) := by
 have hu := Tryz.underlying26
 have HV := fun W h => valid_calls n A cap gs W h hcap
 rw [decide_eq_true hv] at HV
 have HV' := fun W h => valid_calls m A' cap' hs W h hcap'
 rw [decide_eq_false hv'] at HV'
 have HBX := Aside0.mk (putW_boxes w n A cap gs h m A' cap' hs hC hC')
 have HWB := Aside0.mk (putW_below w n A cap gs h m A' cap' hs)
 have HWS := Aside0.mk (putW_size w n A cap gs h m A' cap' hs)
 have HC := Aside0.mk (C_below hC HWB.out)
 have HC' := Aside0.mk (C_below hC' HWB.out)
 clear hC hC' hcap hcap' hv hv'
 go_enter Tryz.func10, Tryz.ntmps10
 go_wp2_with (fail)
 rw [show (((w.alloc (.cells #[.int .i64 n, .slice A gs.length cap] 26)).alloc (.cells #[.int .i64 h] 2)).alloc (.cells #[.int .i64 m, .slice A' hs.length cap'] 26)).alloc (.cells #[.int .i64 0, .slice none 0 0] 26) = putW w n A cap gs h m A' cap' hs from rfl]
 (refine (HV _ HC.out).mono ?_; rintro e w1 ⟨rfl, hb1⟩; have HX := Aside0.mk (HBX.out w1 hb1); have cg0 := HX.out.2.2.1.1; have cg1 := HX.out.2.2.1.2.1; have HB := Aside0.mk hb1; clear hb1)
 go_wp2_with (fail)
 (refine (HV' _ (C_below HC'.out HB.out)).mono ?_; clear cg0 cg1; rintro e w2 ⟨rfl, hb2⟩; have HB2 := Aside0.mk (below_then HB.out HB.out.size hb2); have HX2 := Aside0.mk (HBX.out w2 HB2.out); have ch := HX2.out.2.1; have cf0 := HX2.out.1.1; have cg3 := HX2.out.2.2.1.1; clear hb2)
 have HZ := Aside0.mk (HBX.out w2 HB2.out).2.2.2
 have z0 : w2.cell? ⟨w.heap.size + 1 + 1 + 1, 0, none⟩ = some (.int .i64 0) := (blk_cell HZ.out 0).trans rfl
 have z1 : w2.cell? ⟨w.heap.size + 1 + 1 + 1, 1, none⟩ = some (.slice none 0 0) := (blk_cell HZ.out 1).trans rfl
 have f0 := blk_frozen HZ.out 0
 have f1 := blk_frozen HZ.out 1
 go_wp2_with (fail)
 have p0 := fun a b => put0 (a := a) (b := b) HZ.out
 have p1 := fun a b => put1 (a := a) (b := b) HZ.out
 have hws : w.heap.size ≤ (putW w n A cap gs h m A' cap' hs).heap.size := by have := HWS.out; omega
 refine bodyPost_ret (v := .tuple #[.agg #[.int .i64 0, .slice none 0 0], .int .i64 1]) (by simp [results, Tryz.results10, go_sem, p0, p1]) rfl ⟨_, rfl, S_nil _ _ _ _ _, ?_⟩
 exact below_set (below_set (below_then HWB.out hws HB2.out) (by omega)) (by omega)
set_option maxHeartbeats 4000000 in
set_option maxRecDepth 100000 in
theorem put_far (n : Int) (A : Option Addr) (cap : Nat) (gs : List (List Int)) (h m : Int) (A' : Option Addr) (cap' : Nat) (hs : List (List Int)) (w : World) (hC : dR.C w A gs.length gs) (hcap : gs.length ≤ cap) (hC' : dR.C w A' hs.length hs) (hcap' : hs.length ≤ cap') (hv : ValidF n gs) (hv' : ValidF m hs) (hh : ¬ (0 ≤ h ∧ h ≤ n - 1)) :
  Calls Tryz.prog 10 #[.agg #[.int .i64 n, .slice A gs.length cap], .int .i64 h, .agg #[.int .i64 m, .slice A' hs.length cap']] w (FamRes w 0 [] 2) := by
 have hu := Tryz.underlying26
 have HV := fun W h => valid_calls n A cap gs W h hcap
 rw [decide_eq_true hv] at HV
 have HV' := fun W h => valid_calls m A' cap' hs W h hcap'
 rw [decide_eq_true hv'] at HV'
 have hn1 := hv.1
 have hm1 := hv'.1
 have HW := fun W => within_calls h 0 (n - 1) W
 rw [decide_eq_false hh] at HW
 have HBX := Aside0.mk (putW_boxes w n A cap gs h m A' cap' hs hC hC')
 have HWB := Aside0.mk (putW_below w n A cap gs h m A' cap' hs)
 have HWS := Aside0.mk (putW_size w n A cap gs h m A' cap' hs)
 have HC := Aside0.mk (C_below hC HWB.out)
 have HC' := Aside0.mk (C_below hC' HWB.out)
 clear hC hC' hcap hcap' hv hv' hh
 go_enter Tryz.func10, Tryz.ntmps10
 go_wp2_with (fail)
 rw [show (((w.alloc (.cells #[.int .i64 n, .slice A gs.length cap] 26)).alloc (.cells #[.int .i64 h] 2)).alloc (.cells #[.int .i64 m, .slice A' hs.length cap'] 26)).alloc (.cells #[.int .i64 0, .slice none 0 0] 26) = putW w n A cap gs h m A' cap' hs from rfl]
 (refine (HV _ HC.out).mono ?_; rintro e w1 ⟨rfl, hb1⟩; have HX := Aside0.mk (HBX.out w1 hb1); have cg0 := HX.out.2.2.1.1; have cg1 := HX.out.2.2.1.2.1; have HB := Aside0.mk hb1; clear hb1)
 go_wp2_with (fail)
 (refine (HV' _ (C_below HC'.out HB.out)).mono ?_; clear cg0 cg1; rintro e w2 ⟨rfl, hb2⟩; have HB2 := Aside0.mk (below_then HB.out HB.out.size hb2); have HX2 := Aside0.mk (HBX.out w2 HB2.out); have ch := HX2.out.2.1; have cf0 := HX2.out.1.1; have cg3 := HX2.out.2.2.1.1; clear hb2)
 go_wp2_with (fail)
 (refine (HW _).mono ?_; clear ch cf0 cg3; rintro e w3 ⟨rfl, q, hw3⟩; have HB3 := Aside0.mk (show Below (putW w n A cap gs h m A' cap' hs).heap.size (putW w n A cap gs h m A' cap' hs) w3 by rw [hw3]; exact pw_below_drewN HB2.out _); have HX3 := Aside0.mk (HBX.out w3 HB3.out); have cf0 := HX3.out.1.1; have cg3 := HX3.out.2.2.1.1; clear hw3)
 have HZ := Aside0.mk (HBX.out w3 HB3.out).2.2.2
 have z0 : w3.cell? ⟨w.heap.size + 1 + 1 + 1, 0, none⟩ = some (.int .i64 0) := (blk_cell HZ.out 0).trans rfl
 have z1 : w3.cell? ⟨w.heap.size + 1 + 1 + 1, 1, none⟩ = some (.slice none 0 0) := (blk_cell HZ.out 1).trans rfl
 have f0 := blk_frozen HZ.out 0
 have f1 := blk_frozen HZ.out 1
 go_wp2_with (fail)
 have p0 := fun a b => put0 (a := a) (b := b) HZ.out
 have p1 := fun a b => put1 (a := a) (b := b) HZ.out
 have hws : w.heap.size ≤ (putW w n A cap gs h m A' cap' hs).heap.size := by have := HWS.out; omega
 refine bodyPost_ret (v := .tuple #[.agg #[.int .i64 0, .slice none 0 0], .int .i64 2]) (by simp [results, Tryz.results10, go_sem, p0, p1]) rfl ⟨_, rfl, S_nil _ _ _ _ _, ?_⟩
 exact below_set (below_set (below_then HWB.out hws HB3.out) (by omega)) (by omega)
set_option maxHeartbeats 4000000 in
set_option maxRecDepth 100000 in
theorem put_much (n : Int) (A : Option Addr) (cap : Nat) (gs : List (List Int)) (h m : Int) (A' : Option Addr) (cap' : Nat) (hs : List (List Int)) (w : World) (hC : dR.C w A gs.length gs) (hcap : gs.length ≤ cap) (hC' : dR.C w A' hs.length hs) (hcap' : hs.length ≤ cap') (hv : ValidF n gs) (hv' : ValidF m hs) (hh : 0 ≤ h ∧ h ≤ n - 1) (hl : ¬ n - 1 + m ≤ 7) :
  Calls Tryz.prog 10 #[.agg #[.int .i64 n, .slice A gs.length cap], .int .i64 h, .agg #[.int .i64 m, .slice A' hs.length cap']] w (FamRes w 0 [] 3) := by
 have hu := Tryz.underlying26
 have HV := fun W h => valid_calls n A cap gs W h hcap
 rw [decide_eq_true hv] at HV
 have HV' := fun W h => valid_calls m A' cap' hs W h hcap'
 rw [decide_eq_true hv'] at HV'
 have hn1 := hv.1
 have hm1 := hv'.1
 have HW := fun W => within_calls h 0 (n - 1) W
 rw [decide_eq_true hh] at HW
 have hlim : decide ((7 : Int) < n - 1 + m) = true := decide_eq_true (by omega)
 have HBX := Aside0.mk (putW_boxes w n A cap gs h m A' cap' hs hC hC')
 have HWB := Aside0.mk (putW_below w n A cap gs h m A' cap' hs)
 have HWS := Aside0.mk (putW_size w n A cap gs h m A' cap' hs)
 have HC := Aside0.mk (C_below hC HWB.out)
 have HC' := Aside0.mk (C_below hC' HWB.out)
 clear hC hC' hcap hcap' hv hv' hh hl
 go_enter Tryz.func10, Tryz.ntmps10
 go_wp2_with (fail)
 rw [show (((w.alloc (.cells #[.int .i64 n, .slice A gs.length cap] 26)).alloc (.cells #[.int .i64 h] 2)).alloc (.cells #[.int .i64 m, .slice A' hs.length cap'] 26)).alloc (.cells #[.int .i64 0, .slice none 0 0] 26) = putW w n A cap gs h m A' cap' hs from rfl]
 (refine (HV _ HC.out).mono ?_; rintro e w1 ⟨rfl, hb1⟩; have HX := Aside0.mk (HBX.out w1 hb1); have cg0 := HX.out.2.2.1.1; have cg1 := HX.out.2.2.1.2.1; have HB := Aside0.mk hb1; clear hb1)
 go_wp2_with (fail)
 (refine (HV' _ (C_below HC'.out HB.out)).mono ?_; clear cg0 cg1; rintro e w2 ⟨rfl, hb2⟩; have HB2 := Aside0.mk (below_then HB.out HB.out.size hb2); have HX2 := Aside0.mk (HBX.out w2 HB2.out); have ch := HX2.out.2.1; have cf0 := HX2.out.1.1; have cg3 := HX2.out.2.2.1.1; clear hb2)
 go_wp2_with (fail)
 (refine (HW _).mono ?_; clear ch cf0 cg3; rintro e w3 ⟨rfl, q, hw3⟩; have HB3 := Aside0.mk (show Below (putW w n A cap gs h m A' cap' hs).heap.size (putW w n A cap gs h m A' cap' hs) w3 by rw [hw3]; exact pw_below_drewN HB2.out _); have HX3 := Aside0.mk (HBX.out w3 HB3.out); have cf0 := HX3.out.1.1; have cg3 := HX3.out.2.2.1.1; clear hw3)
 have HZ := Aside0.mk (HBX.out w3 HB3.out).2.2.2
 have z0 : w3.cell? ⟨w.heap.size + 1 + 1 + 1, 0, none⟩ = some (.int .i64 0) := (blk_cell HZ.out 0).trans rfl
 have z1 : w3.cell? ⟨w.heap.size + 1 + 1 + 1, 1, none⟩ = some (.slice none 0 0) := (blk_cell HZ.out 1).trans rfl
 have f0 := blk_frozen HZ.out 0
 have f1 := blk_frozen HZ.out 1
 go_wp2_with (fail)
 have p0 := fun a b => put0 (a := a) (b := b) HZ.out
 have p1 := fun a b => put1 (a := a) (b := b) HZ.out
 have hws : w.heap.size ≤ (putW w n A cap gs h m A' cap' hs).heap.size := by have := HWS.out; omega
 refine bodyPost_ret (v := .tuple #[.agg #[.int .i64 0, .slice none 0 0], .int .i64 3]) (by simp [results, Tryz.results10, go_sem, p0, p1]) rfl ⟨_, rfl, S_nil _ _ _ _ _, ?_⟩
 exact below_set (below_set (below_then HWB.out hws HB3.out) (by omega)) (by omega)
/-- What PutFamily answers. -/
def PutA (n : Int) (gs : List (List Int)) (h m : Int) (hs : List (List Int)) : Int × List (List Int) × Int :=
 if ValidF n gs ∧ ValidF m hs then (if 0 ≤ h ∧ h ≤ n - 1 then (if n - 1 + m ≤ 7 then (n - 1 + m, famN ((n - 1).toNat + m.toNat) (putP gs (n - 1).toNat h.toNat hs), 0) else (0, [], 3)) else (0, [], 2)) else (0, [], 1)
theorem PutA_calls (n : Int) (A : Option Addr) (cap : Nat) (gs : List (List Int)) (h m : Int) (A' : Option Addr) (cap' : Nat) (hs : List (List Int)) (w : World) (hC : dR.C w A gs.length gs) (hcap : gs.length ≤ cap) (hC' : dR.C w A' hs.length hs) (hcap' : hs.length ≤ cap') :
  Calls Tryz.prog 10 #[.agg #[.int .i64 n, .slice A gs.length cap], .int .i64 h, .agg #[.int .i64 m, .slice A' hs.length cap']] w (FamRes w (PutA n gs h m hs).1 (PutA n gs h m hs).2.1 (PutA n gs h m hs).2.2) := by
 unfold PutA
 by_cases hv : ValidF n gs
 ·
  by_cases hv' : ValidF m hs
  ·
   rw [if_pos ⟨hv, hv'⟩]
   by_cases hh : 0 ≤ h ∧ h ≤ n - 1
   ·
    rw [if_pos hh]
    by_cases hl : n - 1 + m ≤ 7
    ·
     rw [if_pos hl]
     exact PutF_calls n A cap gs h m A' cap' hs _ _ _ w hC hcap hC' hcap' (by unfold PutF; rw [if_pos ⟨hv, hv', hh, hl⟩])
    ·
     rw [if_neg hl]
     exact put_much n A cap gs h m A' cap' hs w hC hcap hC' hcap' hv hv' hh hl
   ·
    rw [if_neg hh]
    exact put_far n A cap gs h m A' cap' hs w hC hcap hC' hcap' hv hv' hh
  ·
   rw [if_neg (fun x => hv' x.2)]
   exact put_bad2 n A cap gs h m A' cap' hs w hC hcap hC' hcap' hv hv'
 ·
  rw [if_neg (fun x => hv x.1)]
  exact put_bad n A cap gs h m A' cap' hs w hC hcap hC' hcap' hv

end Go.Proofs.YtgemfighmnnmeaaGreat.PutErr
