/- Contract of the reference's PutFamily. -/
import Derived.Test.YtgemfighmnnmeaaGreatTabs
import Derived.Test.YtgemfighmnnmeaaGreatSTab
import Derived.Test.YtgemfighmnnmeaaGreatPutErr
namespace Go.Proofs.YtgemfighmnnmeaaGreat.SPut
open Go.RowKit Go.Lib Go.Proofs Go.Proofs.YtgemfighmnnmeaaGreatW.PrintWords Go.Proofs.YtgemfighmnnmeaaGreatW.PrintWords.Kd Go.Proofs.YtgemfighmnnmeaaGreatW.PrintLast Go.Proofs.YtgemfighmnnmeaaGreatW.PrintMore Go.Proofs.YtgemfighmnnmeaaGreat.G Go.Proofs.YtgemfighmnnmeaaGreat.Fam Go.Proofs.YtgemfighmnnmeaaGreat.Loops Go.Proofs.YtgemfighmnnmeaaGreat.Bits Go.Proofs.YtgemfighmnnmeaaGreat.Sorting Go.Proofs.YtgemfighmnnmeaaGreat.Crowds Go.Proofs.YtgemfighmnnmeaaGreat.Sorted Go.Proofs.YtgemfighmnnmeaaGreat.Idx Go.Proofs.YtgemfighmnnmeaaGreat.Valid Go.Proofs.YtgemfighmnnmeaaGreat.FamLaw Go.Proofs.YtgemfighmnnmeaaGreat.Opens Go.Proofs.YtgemfighmnnmeaaGreat.Ops Go.Proofs.YtgemfighmnnmeaaGreat.From Go.Proofs.YtgemfighmnnmeaaGreat.Ref Go.Proofs.YtgemfighmnnmeaaGreat.Ok Go.Proofs.YtgemfighmnnmeaaGreat.SDual Go.Proofs.YtgemfighmnnmeaaGreat.SOpen Go.Proofs.YtgemfighmnnmeaaGreat.Leave Go.Proofs.YtgemfighmnnmeaaGreat.Put Go.Proofs.YtgemfighmnnmeaaGreat.PutErr
set_option linter.unusedVariables false
set_option linter.unusedSimpArgs false

/-- The boxes of the two families and of the result. -/
def spW (w : World) (n : Int) (A : Option Addr) (cap : Nat) (gs : List (List Int)) (m : Int) (A' : Option Addr) (cap' : Nat) (hs : List (List Int)) : World := ((w.alloc (.cells #[.int .i64 n, .slice A gs.length cap] 26)).alloc (.cells #[.int .i64 m, .slice A' hs.length cap'] 26)).alloc (.cells #[.int .i64 0, .slice none 0 0] 26)
theorem spW_below (w : World) (n : Int) (A : Option Addr) (cap : Nat) (gs : List (List Int)) (m : Int) (A' : Option Addr) (cap' : Nat) (hs : List (List Int)) : Below w.heap.size w (spW w n A cap gs m A' cap' hs) := below_alloc (below_alloc (below_alloc (Below.refl _ _) _) _) _
theorem spW_size (w : World) (n : Int) (A : Option Addr) (cap : Nat) (gs : List (List Int)) (m : Int) (A' : Option Addr) (cap' : Nat) (hs : List (List Int)) : (spW w n A cap gs m A' cap' hs).heap.size = w.heap.size + 1 + 1 + 1 := by simp [spW]
theorem spW_boxes (w : World) (n : Int) (A : Option Addr) (cap : Nat) (gs : List (List Int)) (m : Int) (A' : Option Addr) (cap' : Nat) (hs : List (List Int)) (hC : dR.C w A gs.length gs) (hC' : dR.C w A' hs.length hs) :
  IsS26 w (spW w n A cap gs m A' cap' hs) w.heap.size n gs ∧ IsS26 w (spW w n A cap gs m A' cap' hs) (w.heap.size + 1) m hs ∧ (spW w n A cap gs m A' cap' hs).heap[w.heap.size + 1 + 1]? = some (.cells #[.int .i64 0, .slice none 0 0] 26 (0, 0)) :=
 ⟨⟨A, cap, blk_alloc (blk_alloc (blk_new w (.cells #[.int .i64 n, .slice A gs.length cap] 26)) _) _, Nat.le_refl _, hC⟩, ⟨A', cap', blk_alloc (blk_at (by simp)) _, Nat.le_succ _, hC'⟩, blk_at (by simp)⟩
set_option maxHeartbeats 8000000 in
set_option maxRecDepth 100000 in
theorem sput_bad (n : Int) (A : Option Addr) (cap : Nat) (gs : List (List Int)) (h m : Int) (A' : Option Addr) (cap' : Nat) (hs : List (List Int)) (w : World) (hC : dR.C w A gs.length gs) (hcap : gs.length ≤ cap) (hC' : dR.C w A' hs.length hs) (hcap' : hs.length ≤ cap') (hv : ¬ ValidF n gs) :
  Calls Tryz.prog 44 #[.agg #[.int .i64 n, .slice A gs.length cap], .int .i64 h, .agg #[.int .i64 m, .slice A' hs.length cap']] w (FamRes w 0 [] 1) := by
 have hu := Tryz.underlying26
 have HOK1 := fun W hI hB => okS_calls w.heap.size n gs w W hI hB
 rw [decide_eq_false hv] at HOK1
 have HBX := Aside0.mk (spW_boxes w n A cap gs m A' cap' hs hC hC')
 have HWB := Aside0.mk (spW_below w n A cap gs m A' cap' hs)
 have HWS := Aside0.mk (spW_size w n A cap gs m A' cap' hs)
 clear hC hC' hcap hcap' hv
 go_enter Tryz.func44, Tryz.ntmps44
 go_wp2_with (fail)
 rw [show ((w.alloc (.cells #[.int .i64 n, .slice A gs.length cap] 26)).alloc (.cells #[.int .i64 m, .slice A' hs.length cap'] 26)).alloc (.cells #[.int .i64 0, .slice none 0 0] 26) = spW w n A cap gs m A' cap' hs from rfl]
 (refine (HOK1 _ HBX.out.1 HWB.out).mono ?_; rintro e w1 ⟨rfl, hb1⟩; have HI1 := Aside0.mk (HBX.out.1.below hb1); have HI2 := Aside0.mk (HBX.out.2.1.below hb1); have HZ1 := Aside0.mk (blk_below HBX.out.2.2 hb1); have HB1 := Aside0.mk (below_then (B := w.heap.size) HWB.out HWB.out.size hb1); have HN1 := Aside0.mk (show w.heap.size + 1 + 1 + 1 ≤ w1.heap.size by have h_ := hb1.size; rw [HWS.out] at h_; exact h_); clear hb1)
 have z0 : w1.cell? ⟨w.heap.size + 1 + 1, 0, none⟩ = some (.int .i64 0) := (blk_cell HZ1.out 0).trans rfl
 have z1 : w1.cell? ⟨w.heap.size + 1 + 1, 1, none⟩ = some (.slice none 0 0) := (blk_cell HZ1.out 1).trans rfl
 have f0 := blk_frozen HZ1.out 0
 have f1 := blk_frozen HZ1.out 1
 go_wp2_with (fail)
 have p0 := fun a b => put0 (a := a) (b := b) HZ1.out
 have p1 := fun a b => put1 (a := a) (b := b) HZ1.out
 refine bodyPost_ret (v := .tuple #[.agg #[.int .i64 0, .slice none 0 0], .int .i64 1]) (by simp [results, Tryz.results44, go_sem, p0, p1]) rfl ⟨_, rfl, S_nil _ _ _ _ _, ?_⟩
 exact below_set (below_set HB1.out (by omega)) (by omega)
set_option maxHeartbeats 8000000 in
set_option maxRecDepth 100000 in
theorem sput_bad2 (n : Int) (A : Option Addr) (cap : Nat) (gs : List (List Int)) (h m : Int) (A' : Option Addr) (cap' : Nat) (hs : List (List Int)) (w : World) (hC : dR.C w A gs.length gs) (hcap : gs.length ≤ cap) (hC' : dR.C w A' hs.length hs) (hcap' : hs.length ≤ cap') (hv : ValidF n gs) (hv' : ¬ ValidF m hs) :
  Calls Tryz.prog 44 #[.agg #[.int .i64 n, .slice A gs.length cap], .int .i64 h, .agg #[.int .i64 m, .slice A' hs.length cap']] w (FamRes w 0 [] 1) := by
 have hu := Tryz.underlying26
 have HOK1 := fun W hI hB => okS_calls w.heap.size n gs w W hI hB
 rw [decide_eq_true hv] at HOK1
 have HOK2 := fun W hI hB => okS_calls (w.heap.size + 1) m hs w W hI hB
 rw [decide_eq_false hv'] at HOK2
 have HBX := Aside0.mk (spW_boxes w n A cap gs m A' cap' hs hC hC')
 have HWB := Aside0.mk (spW_below w n A cap gs m A' cap' hs)
 have HWS := Aside0.mk (spW_size w n A cap gs m A' cap' hs)
 clear hC hC' hcap hcap' hv hv'
 go_enter Tryz.func44, Tryz.ntmps44
 go_wp2_with (fail)
 rw [show ((w.alloc (.cells #[.int .i64 n, .slice A gs.length cap] 26)).alloc (.cells #[.int .i64 m, .slice A' hs.length cap'] 26)).alloc (.cells #[.int .i64 0, .slice none 0 0] 26) = spW w n A cap gs m A' cap' hs from rfl]
 (refine (HOK1 _ HBX.out.1 HWB.out).mono ?_; rintro e w1 ⟨rfl, hb1⟩; have HI1 := Aside0.mk (HBX.out.1.below hb1); have HI2 := Aside0.mk (HBX.out.2.1.below hb1); have HZ1 := Aside0.mk (blk_below HBX.out.2.2 hb1); have HB1 := Aside0.mk (below_then (B := w.heap.size) HWB.out HWB.out.size hb1); have HN1 := Aside0.mk (show w.heap.size + 1 + 1 + 1 ≤ w1.heap.size by have h_ := hb1.size; rw [HWS.out] at h_; exact h_); clear hb1)
 go_wp2_with (fail)
 (refine (HOK2 _ HI2.out HB1.out).mono ?_; rintro e w2 ⟨rfl, hb2⟩; have HI1b := Aside0.mk (HI1.out.below hb2); have HI2b := Aside0.mk (HI2.out.below hb2); have HZ2 := Aside0.mk (blk_below HZ1.out hb2); have HB2 := Aside0.mk (below_then (B := w.heap.size) HB1.out HB1.out.size hb2); have HN2 := Aside0.mk (Nat.le_trans HN1.out hb2.size); clear hb2)
 have hf0 := hold_of HI1b.out
 have hg0 := hold_of HI2b.out
 clear hf0 hg0
 have z0 : w2.cell? ⟨w.heap.size + 1 + 1, 0, none⟩ = some (.int .i64 0) := (blk_cell HZ2.out 0).trans rfl
 have z1 : w2.cell? ⟨w.heap.size + 1 + 1, 1, none⟩ = some (.slice none 0 0) := (blk_cell HZ2.out 1).trans rfl
 have f0 := blk_frozen HZ2.out 0
 have f1 := blk_frozen HZ2.out 1
 go_wp2_with (fail)
 have p0 := fun a b => put0 (a := a) (b := b) HZ2.out
 have p1 := fun a b => put1 (a := a) (b := b) HZ2.out
 refine bodyPost_ret (v := .tuple #[.agg #[.int .i64 0, .slice none 0 0], .int .i64 1]) (by simp [results, Tryz.results44, go_sem, p0, p1]) rfl ⟨_, rfl, S_nil _ _ _ _ _, ?_⟩
 exact below_set (below_set HB2.out (by omega)) (by omega)
set_option maxHeartbeats 8000000 in
set_option maxRecDepth 100000 in
theorem sput_far (n : Int) (A : Option Addr) (cap : Nat) (gs : List (List Int)) (h m : Int) (A' : Option Addr) (cap' : Nat) (hs : List (List Int)) (w : World) (hC : dR.C w A gs.length gs) (hcap : gs.length ≤ cap) (hC' : dR.C w A' hs.length hs) (hcap' : hs.length ≤ cap') (hv : ValidF n gs) (hv' : ValidF m hs) (hh : ¬ (0 ≤ h ∧ h ≤ n - 1)) :
  Calls Tryz.prog 44 #[.agg #[.int .i64 n, .slice A gs.length cap], .int .i64 h, .agg #[.int .i64 m, .slice A' hs.length cap']] w (FamRes w 0 [] 2) := by
 have hu := Tryz.underlying26
 have HOK1 := fun W hI hB => okS_calls w.heap.size n gs w W hI hB
 rw [decide_eq_true hv] at HOK1
 have HOK2 := fun W hI hB => okS_calls (w.heap.size + 1) m hs w W hI hB
 rw [decide_eq_true hv'] at HOK2
 have hn1 := hv.1
 have hm1 := hv'.1
 have HIN := fun W => in_calls h 0 (n - 1) W
 rw [decide_eq_false hh] at HIN
 have HBX := Aside0.mk (spW_boxes w n A cap gs m A' cap' hs hC hC')
 have HWB := Aside0.mk (spW_below w n A cap gs m A' cap' hs)
 have HWS := Aside0.mk (spW_size w n A cap gs m A' cap' hs)
 clear hC hC' hcap hcap' hv hv' hh
 go_enter Tryz.func44, Tryz.ntmps44
 go_wp2_with (fail)
 rw [show ((w.alloc (.cells #[.int .i64 n, .slice A gs.length cap] 26)).alloc (.cells #[.int .i64 m, .slice A' hs.length cap'] 26)).alloc (.cells #[.int .i64 0, .slice none 0 0] 26) = spW w n A cap gs m A' cap' hs from rfl]
 (refine (HOK1 _ HBX.out.1 HWB.out).mono ?_; rintro e w1 ⟨rfl, hb1⟩; have HI1 := Aside0.mk (HBX.out.1.below hb1); have HI2 := Aside0.mk (HBX.out.2.1.below hb1); have HZ1 := Aside0.mk (blk_below HBX.out.2.2 hb1); have HB1 := Aside0.mk (below_then (B := w.heap.size) HWB.out HWB.out.size hb1); have HN1 := Aside0.mk (show w.heap.size + 1 + 1 + 1 ≤ w1.heap.size by have h_ := hb1.size; rw [HWS.out] at h_; exact h_); clear hb1)
 go_wp2_with (fail)
 (refine (HOK2 _ HI2.out HB1.out).mono ?_; rintro e w2 ⟨rfl, hb2⟩; have HI1b := Aside0.mk (HI1.out.below hb2); have HI2b := Aside0.mk (HI2.out.below hb2); have HZ2 := Aside0.mk (blk_below HZ1.out hb2); have HB2 := Aside0.mk (below_then (B := w.heap.size) HB1.out HB1.out.size hb2); have HN2 := Aside0.mk (Nat.le_trans HN1.out hb2.size); clear hb2)
 have hf0 := hold_of HI1b.out
 have hg0 := hold_of HI2b.out
 go_wp2_with (fail)
 (refine (HIN _).mono ?_; clear hf0 hg0; rintro e w3 ⟨rfl, q, hw3⟩; have HI1c := Aside0.mk (show IsS26 w w3 w.heap.size n gs by rw [hw3]; exact HI1b.out.drewN _); have HI2c := Aside0.mk (show IsS26 w w3 (w.heap.size + 1) m hs by rw [hw3]; exact HI2b.out.drewN _); have HZ3 := Aside0.mk (show w3.heap[w.heap.size + 1 + 1]? = some (.cells #[.int .i64 0, .slice none 0 0] 26 (0, 0)) by rw [hw3]; exact HZ2.out); have HB3 := Aside0.mk (show Below w.heap.size w w3 by rw [hw3]; exact pw_below_drewN HB2.out _); have HN3 := Aside0.mk (show w.heap.size + 1 + 1 + 1 ≤ w3.heap.size by rw [hw3]; exact HN2.out); clear hw3)
 have hf0 := hold_of HI1c.out
 have hg0 := hold_of HI2c.out
 clear hf0 hg0
 have z0 : w3.cell? ⟨w.heap.size + 1 + 1, 0, none⟩ = some (.int .i64 0) := (blk_cell HZ3.out 0).trans rfl
 have z1 : w3.cell? ⟨w.heap.size + 1 + 1, 1, none⟩ = some (.slice none 0 0) := (blk_cell HZ3.out 1).trans rfl
 have f0 := blk_frozen HZ3.out 0
 have f1 := blk_frozen HZ3.out 1
 go_wp2_with (fail)
 have p0 := fun a b => put0 (a := a) (b := b) HZ3.out
 have p1 := fun a b => put1 (a := a) (b := b) HZ3.out
 refine bodyPost_ret (v := .tuple #[.agg #[.int .i64 0, .slice none 0 0], .int .i64 2]) (by simp [results, Tryz.results44, go_sem, p0, p1]) rfl ⟨_, rfl, S_nil _ _ _ _ _, ?_⟩
 exact below_set (below_set HB3.out (by omega)) (by omega)
set_option maxHeartbeats 8000000 in
set_option maxRecDepth 100000 in
theorem sput_much (n : Int) (A : Option Addr) (cap : Nat) (gs : List (List Int)) (h m : Int) (A' : Option Addr) (cap' : Nat) (hs : List (List Int)) (w : World) (hC : dR.C w A gs.length gs) (hcap : gs.length ≤ cap) (hC' : dR.C w A' hs.length hs) (hcap' : hs.length ≤ cap') (hv : ValidF n gs) (hv' : ValidF m hs) (hh : 0 ≤ h ∧ h ≤ n - 1) (hl : ¬ n - 1 + m ≤ 7) :
  Calls Tryz.prog 44 #[.agg #[.int .i64 n, .slice A gs.length cap], .int .i64 h, .agg #[.int .i64 m, .slice A' hs.length cap']] w (FamRes w 0 [] 3) := by
 have hu := Tryz.underlying26
 have HOK1 := fun W hI hB => okS_calls w.heap.size n gs w W hI hB
 rw [decide_eq_true hv] at HOK1
 have HOK2 := fun W hI hB => okS_calls (w.heap.size + 1) m hs w W hI hB
 rw [decide_eq_true hv'] at HOK2
 have hn1 := hv.1
 have hm1 := hv'.1
 have HIN := fun W => in_calls h 0 (n - 1) W
 rw [decide_eq_true hh] at HIN
 have hlim : decide ((7 : Int) < n - 1 + m) = true := decide_eq_true (by omega)
 have HBX := Aside0.mk (spW_boxes w n A cap gs m A' cap' hs hC hC')
 have HWB := Aside0.mk (spW_below w n A cap gs m A' cap' hs)
 have HWS := Aside0.mk (spW_size w n A cap gs m A' cap' hs)
 clear hC hC' hcap hcap' hv hv' hh hl
 go_enter Tryz.func44, Tryz.ntmps44
 go_wp2_with (fail)
 rw [show ((w.alloc (.cells #[.int .i64 n, .slice A gs.length cap] 26)).alloc (.cells #[.int .i64 m, .slice A' hs.length cap'] 26)).alloc (.cells #[.int .i64 0, .slice none 0 0] 26) = spW w n A cap gs m A' cap' hs from rfl]
 (refine (HOK1 _ HBX.out.1 HWB.out).mono ?_; rintro e w1 ⟨rfl, hb1⟩; have HI1 := Aside0.mk (HBX.out.1.below hb1); have HI2 := Aside0.mk (HBX.out.2.1.below hb1); have HZ1 := Aside0.mk (blk_below HBX.out.2.2 hb1); have HB1 := Aside0.mk (below_then (B := w.heap.size) HWB.out HWB.out.size hb1); have HN1 := Aside0.mk (show w.heap.size + 1 + 1 + 1 ≤ w1.heap.size by have h_ := hb1.size; rw [HWS.out] at h_; exact h_); clear hb1)
 go_wp2_with (fail)
 (refine (HOK2 _ HI2.out HB1.out).mono ?_; rintro e w2 ⟨rfl, hb2⟩; have HI1b := Aside0.mk (HI1.out.below hb2); have HI2b := Aside0.mk (HI2.out.below hb2); have HZ2 := Aside0.mk (blk_below HZ1.out hb2); have HB2 := Aside0.mk (below_then (B := w.heap.size) HB1.out HB1.out.size hb2); have HN2 := Aside0.mk (Nat.le_trans HN1.out hb2.size); clear hb2)
 have hf0 := hold_of HI1b.out
 have hg0 := hold_of HI2b.out
 go_wp2_with (fail)
 (refine (HIN _).mono ?_; clear hf0 hg0; rintro e w3 ⟨rfl, q, hw3⟩; have HI1c := Aside0.mk (show IsS26 w w3 w.heap.size n gs by rw [hw3]; exact HI1b.out.drewN _); have HI2c := Aside0.mk (show IsS26 w w3 (w.heap.size + 1) m hs by rw [hw3]; exact HI2b.out.drewN _); have HZ3 := Aside0.mk (show w3.heap[w.heap.size + 1 + 1]? = some (.cells #[.int .i64 0, .slice none 0 0] 26 (0, 0)) by rw [hw3]; exact HZ2.out); have HB3 := Aside0.mk (show Below w.heap.size w w3 by rw [hw3]; exact pw_below_drewN HB2.out _); have HN3 := Aside0.mk (show w.heap.size + 1 + 1 + 1 ≤ w3.heap.size by rw [hw3]; exact HN2.out); clear hw3)
 have hf0 := hold_of HI1c.out
 have hg0 := hold_of HI2c.out
 have z0 : w3.cell? ⟨w.heap.size + 1 + 1, 0, none⟩ = some (.int .i64 0) := (blk_cell HZ3.out 0).trans rfl
 have z1 : w3.cell? ⟨w.heap.size + 1 + 1, 1, none⟩ = some (.slice none 0 0) := (blk_cell HZ3.out 1).trans rfl
 have f0 := blk_frozen HZ3.out 0
 have f1 := blk_frozen HZ3.out 1
 go_wp2_with (fail)
 have p0 := fun a b => put0 (a := a) (b := b) HZ3.out
 have p1 := fun a b => put1 (a := a) (b := b) HZ3.out
 refine bodyPost_ret (v := .tuple #[.agg #[.int .i64 0, .slice none 0 0], .int .i64 3]) (by simp [results, Tryz.results44, go_sem, p0, p1]) rfl ⟨_, rfl, S_nil _ _ _ _ _, ?_⟩
 exact below_set (below_set HB3.out (by omega)) (by omega)
theorem pl_is : ∀ c : Nat, c < 128 → ∀ a : Nat, a < 7 → Go.bits .and .i64 (c : Int) (wrap64 (wrap64 (2 ^ a) - 1)) = ((c % 2 ^ a : Nat) : Int) := by decide +kernel
theorem pw_is : ∀ d : Nat, d < 64 → ∀ x : Nat, x < 7 → Go.bits .or .i64 (Go.bits .and .i64 (d : Int) (wrap64 (wrap64 (2 ^ x) - 1))) (wrap64 (Go.bits .andNot .i64 (d : Int) (wrap64 (wrap64 (2 ^ x) - 1)) * 2)) = ((wideN d x : Nat) : Int) := by decide +kernel
theorem po_is : ∀ d : Nat, d < 128 → ∀ x : Nat, x < 7 → Go.bits .or .i64 (d : Int) (wrap64 (2 ^ x)) = ((d ||| 1 <<< x : Nat) : Int) := by decide +kernel
theorem put_bits (a b x : Nat) (ha : a ≤ 6) (ham : a + b ≤ 7) (hx : x ≤ a) (gs hs : List (List Int)) (c : Nat) (hc : c < 2 ^ (a + b)) :
  ∃ P Q W W2 : Nat, Go.bits .and .i64 (c : Int) (wrap64 (wrap64 (2 ^ a) - 1)) = (P : Int) ∧ (c : Int) / 2 ^ a = (Q : Int) ∧ Go.bits .or .i64 (Go.bits .and .i64 (P : Int) (wrap64 (wrap64 (2 ^ x) - 1))) (wrap64 (Go.bits .andNot .i64 (P : Int) (wrap64 (wrap64 (2 ^ x) - 1)) * 2)) = (W : Int) ∧ Go.bits .or .i64 (W : Int) (wrap64 (2 ^ x)) = (W2 : Int) ∧
   Q < 2 ^ b ∧ W < 2 ^ (a + 1) ∧ W2 < 2 ^ (a + 1) ∧ putP gs a x hs c = (if openN hs Q = true then openN gs W2 else openN gs W) := by
 have h7 : 2 ^ (a + b) ≤ 128 := two_pow_le ham
 have h6 : 2 ^ a ≤ 64 := by have := Nat.pow_le_pow_right (n := 2) (by omega) ha; simpa using this
 have h8 : 2 ^ (a + 1) ≤ 128 := two_pow_le (by omega)
 have hP : c % 2 ^ a < 2 ^ a := Nat.mod_lt _ (Nat.two_pow_pos a)
 have hw := wide_lt ha hP hx
 refine ⟨c % 2 ^ a, c / 2 ^ a, wideN (c % 2 ^ a) x, wideN (c % 2 ^ a) x ||| 1 <<< x, pl_is c (Nat.lt_of_lt_of_le hc h7) a (by omega), by push_cast; rfl, pw_is _ (Nat.lt_of_lt_of_le hP h6) x (by omega), po_is _ (Nat.lt_of_lt_of_le hw.1 h8) x (by omega), Nat.div_lt_of_lt_mul (by rwa [← Nat.pow_add]), hw.1, hw.2, ?_⟩
 unfold putP putD
 split <;> rfl
set_option maxHeartbeats 16000000 in
set_option maxRecDepth 100000 in
theorem sput_yes (a b : Nat) (ha : a ≤ 6) (hm1 : 1 ≤ b) (ham : a + b ≤ 7) (n : Int) (hn : n = (a : Int) + 1) (m : Int) (hm : m = (b : Int)) (A A' : Option Addr) (cap cap' : Nat) (gs hs : List (List Int)) (x h : Nat) (hx : (x : Int) = (h : Int)) (hh : x ≤ a) (w : World) (hC : dR.C w A gs.length gs) (hcap : gs.length ≤ cap) (hC' : dR.C w A' hs.length hs) (hcap' : hs.length ≤ cap') (hv : ValidF n gs) (hv' : ValidF m hs) :
  Calls Tryz.prog 44 #[.agg #[.int .i64 n, .slice A gs.length cap], .int .i64 (h : Int), .agg #[.int .i64 m, .slice A' hs.length cap']] w (FamRes w ((a : Int) + (b : Int)) (famN (a + b) (putP gs a h hs)) 0) := by
 obtain rfl : x = h := by omega
 have hut := Tryz.underlying68
 have hu := Tryz.underlying26
 have HOK1 := fun W hI hB => okS_calls w.heap.size n gs w W hI hB
 rw [decide_eq_true hv] at HOK1
 have HOK2 := fun W hI hB => okS_calls (w.heap.size + 1) m hs w W hI hB
 rw [decide_eq_true hv'] at HOK2
 have HBX := Aside0.mk (spW_boxes w n A cap gs m A' cap' hs hC hC')
 have HWB := Aside0.mk (spW_below w n A cap gs m A' cap' hs)
 have HWS := Aside0.mk (spW_size w n A cap gs m A' cap' hs)
 have HIN := fun W => in_calls (x : Int) 0 (a : Int) W
 rw [decide_eq_true (show 0 ≤ (x : Int) ∧ (x : Int) ≤ (a : Int) by omega)] at HIN
 have HT1 := Aside0.mk (fun (W : World) (hI : IsS26 w W w.heap.size n gs) hB => tableR_calls w.heap.size (a + 1) (by omega) gs (smalls_of hv) w W (by rw [show ((a + 1 : Nat) : Int) = n by omega]; exact hI) hB)
 have HT2 := Aside0.mk (fun (W : World) (hI : IsS26 w W (w.heap.size + 1) m hs) hB => tableR_calls (w.heap.size + 1) b (by omega) hs (smalls_of hv') w W (by rw [← hm]; exact hI) hB)
 have h7 : 2 ^ (a + b) ≤ 128 := two_pow_le ham
 have HAT1 := Aside0.mk (fun c (hc : c < 2 ^ (a + 1)) => tableN_at (gs := gs) hc)
 have HAT2 := Aside0.mk (fun c (hc : c < 2 ^ b) => tableN_at (gs := hs) hc)
 have HFR := Aside0.mk (fun (W : World) A c (hC : Kd.bool.C W A (tab (putP gs a x hs) (2 ^ (a + b))).length (tab (putP gs a x hs) (2 ^ (a + b)))) hc => FromF_calls ((a + b : Nat) : Int) A c (tab (putP gs a x hs) (2 ^ (a + b))) _ _ W hC hc (from_tabF ham (putP gs a x hs)))
 have HTL := Aside0.mk (tab_len (putP gs a x hs) (2 ^ (a + b)))
 have HTN1 := Aside0.mk (tableN_len (a + 1) gs)
 have HTN2 := Aside0.mk (tableN_len b hs)
 have hlim : decide ((7 : Int) < (a : Int) + m) = false := decide_eq_false (by omega)
 have ha7 : (a : Int) ≤ 6 := by omega
 have hm7 : (a : Int) + m ≤ 7 := by omega
 have HNA := Aside0.mk hn
 have HMB := Aside0.mk hm
 have hna : n - 1 = (a : Int) := by omega
 clear hC hC' hcap hcap' hv hv' hx hn
 subst hm
 have HPB := Aside0.mk (fun c hc => put_bits a b x ha ham hh gs hs c hc)
 have hwM : wrap64 ((2 : Int) ^ (a + b)) = ((2 ^ (a + b) : Nat) : Int) := by
  have e : (2 : Int) ^ (a + b) = ((2 ^ (a + b) : Nat) : Int) := by push_cast; rfl
  have h7' : ((2 ^ (a + b) : Nat) : Int) ≤ 128 := by exact_mod_cast h7
  have h70 : (0 : Int) ≤ ((2 ^ (a + b) : Nat) : Int) := Int.natCast_nonneg _
  rw [e]
  generalize ((2 ^ (a + b) : Nat) : Int) = q at *
  exact wrap_id (by omega) (by omega)
 have h8 : 2 ^ (a + 1) ≤ 128 := two_pow_le (by omega)
 have h9 : 2 ^ b ≤ 128 := two_pow_le (by omega)
 generalize hF : famN (a + b) (putP gs a x hs) = FF at *
 generalize hM : 2 ^ (a + b) = M at *
 generalize hN1 : 2 ^ (a + 1) = N1 at *
 generalize hN2 : 2 ^ b = N2 at *
 clear hN1 hN2
 have HM := Aside0.mk hM
 clear hM
 go_enter Tryz.func44, Tryz.ntmps44
 go_wp2_with (fail)
 rw [show ((w.alloc (.cells #[.int .i64 n, .slice A gs.length cap] 26)).alloc (.cells #[.int .i64 (b : Int), .slice A' hs.length cap'] 26)).alloc (.cells #[.int .i64 0, .slice none 0 0] 26) = spW w n A cap gs (b : Int) A' cap' hs from rfl]
 (refine (HOK1 _ HBX.out.1 HWB.out).mono ?_; rintro e w1 ⟨rfl, hb1⟩; have HI1 := Aside0.mk (HBX.out.1.below hb1); have HI2 := Aside0.mk (HBX.out.2.1.below hb1); have HZ1 := Aside0.mk (blk_below HBX.out.2.2 hb1); have HB1 := Aside0.mk (below_then (B := w.heap.size) HWB.out HWB.out.size hb1); have HN1 := Aside0.mk (show w.heap.size + 1 + 1 + 1 ≤ w1.heap.size by have h_ := hb1.size; rw [HWS.out] at h_; exact h_); clear hb1)
 go_wp2_with (fail)
 (refine (HOK2 _ HI2.out HB1.out).mono ?_; rintro e w2 ⟨rfl, hb2⟩; have HI1b := Aside0.mk (HI1.out.below hb2); have HI2b := Aside0.mk (HI2.out.below hb2); have HZ2 := Aside0.mk (blk_below HZ1.out hb2); have HB2 := Aside0.mk (below_then (B := w.heap.size) HB1.out HB1.out.size hb2); have HN2 := Aside0.mk (Nat.le_trans HN1.out hb2.size); clear hb2)
 have hf0 := hold_of HI1b.out
 have hg0 := hold_of HI2b.out
 go_wp2_with (fail)
 (refine (HIN _).mono ?_; clear hf0 hg0; rintro e w3 ⟨rfl, q, hw3⟩; have HI1c := Aside0.mk (show IsS26 w w3 w.heap.size n gs by rw [hw3]; exact HI1b.out.drewN _); have HI2c := Aside0.mk (show IsS26 w w3 (w.heap.size + 1) (b : Int) hs by rw [hw3]; exact HI2b.out.drewN _); have HZ3 := Aside0.mk (show w3.heap[w.heap.size + 1 + 1]? = some (.cells #[.int .i64 0, .slice none 0 0] 26 (0, 0)) by rw [hw3]; exact HZ2.out); have HB3 := Aside0.mk (show Below w.heap.size w w3 by rw [hw3]; exact pw_below_drewN HB2.out _); have HN3 := Aside0.mk (show w.heap.size + 1 + 1 + 1 ≤ w3.heap.size by rw [hw3]; exact HN2.out); clear hw3)
 have hf0 := hold_of HI1c.out
 have hg0 := hold_of HI2c.out
 go_wp2_with (fail)
 clear hf0 hg0
 (refine (HT1.out _ HI1c.out HB3.out).mono ?_; rintro e w4 ⟨T1, c1, rfl, hc1, hr1, hi1, hb4, hk4⟩; have HI1d := Aside0.mk (show IsS26 w w4 w.heap.size n gs by have h_ := hi1; rwa [show ((a + 1 : Nat) : Int) = n by have h2_ := HNA.out; omega] at h_); have HI2d := Aside0.mk (isS_keep HI2c.out hk4 (by omega)); have HZ4 := Aside0.mk (hk4.blk HZ3.out (by omega) (by simp)); have HB4 := Aside0.mk hb4; have HR1 := Aside0.mk hr1; have HN4 := Aside0.mk (Nat.le_trans HN3.out hk4.1); clear hi1 hb4 hk4 hr1)
 go_wp2_with (fail)
 (refine (HT2.out _ HI2d.out HB4.out).mono ?_; rintro e w5 ⟨T2, c2, rfl, hc2, hr2, hi2, hb5, hk5⟩; have HI1e := Aside0.mk (isS_keep HI1d.out hk5 (by omega)); have HZ5 := Aside0.mk (hk5.blk HZ4.out (by omega) (by simp)); have HB5 := Aside0.mk hb5; have HC1 := Aside0.mk (R_reads' (R_still HR1.out hk5 (by have h_ := HN3.out; omega))).2.2; have HC2 := Aside0.mk (R_reads' hr2).2.2; have HN5 := Aside0.mk (Nat.le_trans HN4.out hk5.1); clear hi2 hb5 hk5 hr2)
 go_wp2_with (fail)
 go_loopg [11, 12, 13, 14] M (fun gg v11 v12 _ _ wr => ∃ (c : Nat) (u : Value), c ≤ M ∧ M - c ≤ gg ∧ v12 = .int .i64 (c : Int) ∧ u = v11 ∧ Aside0 (Kd.S Kd.bool 4 wr w5.heap.size (fun _ => True) u (tab (putP gs a x hs) c)) ∧ Aside0 (Below w5.heap.size w5 wr))
 case atStart => exact ⟨0, _, Nat.zero_le _, by omega, rfl, rfl, ⟨S_empty Kd.bool _ w5 _ (Nat.le_refl _)⟩, ⟨below_alloc (Below.refl _ _) _⟩⟩
 case round =>
  obtain ⟨c, u, hcM, hgg, rfl, rfl, HS, HBR⟩ := hrel
  have hf0 := pw_cell_below HBR.out (hold_of HI1e.out)

  by_cases hlt : c < M
  ·
   have hltz : (c : Int) < (M : Int) := by omega
   obtain ⟨P, Q, W, W2, e1, e2, e3, e4, q1, q2, q3, hpp⟩ := HPB.out c hlt
   obtain ⟨ad1, rfl, hx1⟩ := table_at (Kd.C_below HC1.out HBR.out) (show W < (tableN (a + 1) gs).length by rw [HTN1.out]; exact q2)
   obtain ⟨ad1', e', hx1'⟩ := table_at (Kd.C_below HC1.out HBR.out) (show W2 < (tableN (a + 1) gs).length by rw [HTN1.out]; exact q3)
   obtain rfl : ad1 = ad1' := by injection e'
   obtain ⟨ad2, rfl, hx2⟩ := table_at (Kd.C_below HC2.out HBR.out) (show Q < (tableN b hs).length by rw [HTN2.out]; exact q1)
   rw [HAT1.out W q2] at hx1
   rw [HAT1.out W2 q3] at hx1'
   rw [HAT2.out Q q1] at hx2
   have hq1 : (Q : Int) < (N2 : Int) := by omega
   have hq2 : (W : Int) < (N1 : Int) := by omega
   have hq3 : (W2 : Int) < (N1 : Int) := by omega
   have hlen : (tab (putP gs a x hs) c).length = c := tab_len _ _
   have HSU := Aside0.mk (tab_succ (putP gs a x hs) c)
   have HPP := Aside0.mk hpp
   generalize hL : tab (putP gs a x hs) c = L at *
   have Hlen := Aside0.mk hlen
   clear hL hlen hpp e'
   generalize hV : openN hs Q = V at *
   generalize hU : openN gs W = U at *
   generalize hU2 : openN gs W2 = U2 at *
   clear hV hU hU2
   have HPY := Aside0.mk (show ∀ v : Bool, (if V = true then U2 else U) = v → L ++ [v] = tab (putP gs a x hs) (c + 1) from fun v hv => by rw [HSU.out, HPP.out, hv])
   clear HSU HPP
   cases V
   ·
    clear hx1' q3 hq3 e4
    cases U
    ·
     obtain HPZ := Aside0.mk (HPY.out false rfl)
     clear HPY
     go_wp2_with (at_builtin; refine S_append Kd.bool (w0 := w5) (W := wr) w5.heap.size rfl (.tmp 84) (.tmp 89) 68 4 (.bool false) 1 rfl hut infoB rfl (by decide) (by decide) u L false [.bool false] (fun _ => True) (fun _ => False) rfl rfl ?h1 ?h2 ?h3 ?h4 ?h5 ?h6 ?h7 ?_; (case h1 => rfl); (case h2 => exact fun k hk => hk.elim); (case h3 => exact fun _ _ => trivial); (case h4 => exact S_mono HS.out (fun k _ => ⟨trivial, fun h => h⟩)); (case h5 => exact HBR.out); (case h6 => exact HBR.out.size); (case h7 => have := Hlen.out; omega); intro v5 w6 hS5 hB5 hg5 hat5; have HS5 := Aside0.mk hS5; have HB5b := Aside0.mk hB5; clear hS5 hB5 hg5 hat5)
     go_roundg (M - (c + 1))
     case measure => omega
     case rel => exact ⟨c + 1, _, by omega, by omega, by go_num, rfl, ⟨by rw [← HPZ.out]; exact HS5.out⟩, HB5b⟩
    ·
     obtain HPZ := Aside0.mk (HPY.out true rfl)
     clear HPY
     go_wp2_with (at_builtin; refine S_append Kd.bool (w0 := w5) (W := wr) w5.heap.size rfl (.tmp 84) (.tmp 89) 68 4 (.bool false) 1 rfl hut infoB rfl (by decide) (by decide) u L true [.bool true] (fun _ => True) (fun _ => False) rfl rfl ?h1 ?h2 ?h3 ?h4 ?h5 ?h6 ?h7 ?_; (case h1 => rfl); (case h2 => exact fun k hk => hk.elim); (case h3 => exact fun _ _ => trivial); (case h4 => exact S_mono HS.out (fun k _ => ⟨trivial, fun h => h⟩)); (case h5 => exact HBR.out); (case h6 => exact HBR.out.size); (case h7 => have := Hlen.out; omega); intro v5 w6 hS5 hB5 hg5 hat5; have HS5 := Aside0.mk hS5; have HB5b := Aside0.mk hB5; clear hS5 hB5 hg5 hat5)
     go_roundg (M - (c + 1))
     case measure => omega
     case rel => exact ⟨c + 1, _, by omega, by omega, by go_num, rfl, ⟨by rw [← HPZ.out]; exact HS5.out⟩, HB5b⟩
   ·
    clear hx1 q2 hq2
    cases U2
    ·
     obtain HPZ := Aside0.mk (HPY.out false rfl)
     clear HPY
     go_wp2_with (at_builtin; refine S_append Kd.bool (w0 := w5) (W := wr) w5.heap.size rfl (.tmp 84) (.tmp 89) 68 4 (.bool false) 1 rfl hut infoB rfl (by decide) (by decide) u L false [.bool false] (fun _ => True) (fun _ => False) rfl rfl ?h1 ?h2 ?h3 ?h4 ?h5 ?h6 ?h7 ?_; (case h1 => rfl); (case h2 => exact fun k hk => hk.elim); (case h3 => exact fun _ _ => trivial); (case h4 => exact S_mono HS.out (fun k _ => ⟨trivial, fun h => h⟩)); (case h5 => exact HBR.out); (case h6 => exact HBR.out.size); (case h7 => have := Hlen.out; omega); intro v5 w6 hS5 hB5 hg5 hat5; have HS5 := Aside0.mk hS5; have HB5b := Aside0.mk hB5; clear hS5 hB5 hg5 hat5)
     go_roundg (M - (c + 1))
     case measure => omega
     case rel => exact ⟨c + 1, _, by omega, by omega, by go_num, rfl, ⟨by rw [← HPZ.out]; exact HS5.out⟩, HB5b⟩
    ·
     obtain HPZ := Aside0.mk (HPY.out true rfl)
     clear HPY
     go_wp2_with (at_builtin; refine S_append Kd.bool (w0 := w5) (W := wr) w5.heap.size rfl (.tmp 84) (.tmp 89) 68 4 (.bool false) 1 rfl hut infoB rfl (by decide) (by decide) u L true [.bool true] (fun _ => True) (fun _ => False) rfl rfl ?h1 ?h2 ?h3 ?h4 ?h5 ?h6 ?h7 ?_; (case h1 => rfl); (case h2 => exact fun k hk => hk.elim); (case h3 => exact fun _ _ => trivial); (case h4 => exact S_mono HS.out (fun k _ => ⟨trivial, fun h => h⟩)); (case h5 => exact HBR.out); (case h6 => exact HBR.out.size); (case h7 => have := Hlen.out; omega); intro v5 w6 hS5 hB5 hg5 hat5; have HS5 := Aside0.mk hS5; have HB5b := Aside0.mk hB5; clear hS5 hB5 hg5 hat5)
     go_roundg (M - (c + 1))
     case measure => omega
     case rel => exact ⟨c + 1, _, by omega, by omega, by go_num, rfl, ⟨by rw [← HPZ.out]; exact HS5.out⟩, HB5b⟩
  ·
   have hltz : ¬ (c : Int) < (M : Int) := by omega
   obtain rfl : c = M := by omega
   obtain ⟨A5, c5, rfl, hc5, hC5⟩ := S_reads HS.out
   have HFX := HFR.out wr A5 c5 hC5 hc5
   rw [HTL.out] at HFX
   have hlen : (tab (putP gs a x hs) c).length = c := HTL.out
   rw [hlen]
   clear hlen hC5 hc5
   rw [show ((a + b : Nat) : Int) = (a : Int) + (b : Int) by push_cast; rfl] at HFX
   go_wp2_with (fail)
   (refine HFX.mono ?_; clear hf0; rintro e w6 ⟨v6, rfl, hs6, hb6⟩; obtain ⟨A6, c6, rfl⟩ := S_slice hs6; have HS6 := Aside0.mk hs6; have HZ6 := Aside0.mk (blk_below (blk_below HZ5.out HBR.out) hb6); have HBW := Aside0.mk (below_then (B := w.heap.size) HB5.out HB5.out.size HBR.out); have HB6 := Aside0.mk (below_then (B := w.heap.size) HBW.out HBW.out.size hb6); clear hs6 hb6)
   have z0 : w6.cell? ⟨w.heap.size + 1 + 1, 0, none⟩ = some (.int .i64 0) := (blk_cell HZ6.out 0).trans rfl
   have z1 : w6.cell? ⟨w.heap.size + 1 + 1, 1, none⟩ = some (.slice none 0 0) := (blk_cell HZ6.out 1).trans rfl
   have f0 := blk_frozen HZ6.out 0
   have f1 := blk_frozen HZ6.out 1
   go_wp2_with (fail)
   have p0 := fun a b => put0 (a := a) (b := b) HZ6.out
   have p1 := fun a b => put1 (a := a) (b := b) HZ6.out
   subst hF
   refine bodyPost_ret (v := .tuple #[.agg #[.int .i64 ((a : Int) + (b : Int)), .slice A6 (famN (a + b) (putP gs a x hs)).length c6], .int .i64 0]) (by simp [results, Tryz.results44, go_sem, p0, p1]) rfl ⟨_, rfl, S_put HZ6.out (S_lower HS6.out HBW.out.size), ?_⟩
   exact below_set (below_set HB6.out (by omega)) (by omega)
theorem SPut_calls (n : Int) (A : Option Addr) (cap : Nat) (gs : List (List Int)) (h m : Int) (A' : Option Addr) (cap' : Nat) (hs : List (List Int)) (w : World) (hC : dR.C w A gs.length gs) (hcap : gs.length ≤ cap) (hC' : dR.C w A' hs.length hs) (hcap' : hs.length ≤ cap') :
  Calls Tryz.prog 44 #[.agg #[.int .i64 n, .slice A gs.length cap], .int .i64 h, .agg #[.int .i64 m, .slice A' hs.length cap']] w (FamRes w (PutA n gs h m hs).1 (PutA n gs h m hs).2.1 (PutA n gs h m hs).2.2) := by
 unfold PutA
 by_cases hv : ValidF n gs
 ·
  by_cases hv' : ValidF m hs
  ·
   rw [if_pos ⟨hv, hv'⟩]
   by_cases hh : 0 ≤ h ∧ h ≤ n - 1
   ·
    rw [if_pos hh]
    by_cases hl : n - 1 + m ≤ 7
    ·
     rw [if_pos hl]
     have hn1 := hv.1
     have hm1 := hv'.1
     obtain ⟨a, ha⟩ : ∃ a : Nat, n - 1 = (a : Int) := ⟨(n - 1).toNat, by omega⟩
     obtain ⟨b, hb⟩ : ∃ b : Nat, m = (b : Int) := ⟨m.toNat, by omega⟩
     obtain ⟨x, rfl⟩ : ∃ x : Nat, h = (x : Int) := ⟨h.toNat, by omega⟩
     have := sput_yes a b (by omega) (by omega) (by omega) n (by omega) m hb A A' cap cap' gs hs x x rfl (by omega) w hC hcap hC' hcap' hv hv'
     rw [ha, hb, Int.toNat_natCast, Int.toNat_natCast, Int.toNat_natCast]
     rw [hb] at this
     exact this
    ·
     rw [if_neg hl]
     exact sput_much n A cap gs h m A' cap' hs w hC hcap hC' hcap' hv hv' hh hl
   ·
    rw [if_neg hh]
    exact sput_far n A cap gs h m A' cap' hs w hC hcap hC' hcap' hv hv' hh
  ·
   rw [if_neg (fun x => hv' x.2)]
   exact sput_bad2 n A cap gs h m A' cap' hs w hC hcap hC' hcap' hv hv'
 ·
  rw [if_neg (fun x => hv x.1)]
  exact sput_bad n A cap gs h m A' cap' hs w hC hcap hC' hcap' hv

end Go.Proofs.YtgemfighmnnmeaaGreat.SPut
