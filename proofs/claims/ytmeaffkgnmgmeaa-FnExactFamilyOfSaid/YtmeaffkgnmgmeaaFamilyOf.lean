/- Contracts of the program's and the reference's FamilyOf. -/
import Derived.Test.YtmeaffkgnmgmeaaSDual
import Derived.Test.YtmeaffkgnmgmeaaSTab
namespace Go.Proofs.Ytmeaffkgnmgmeaa.FamilyOf
open Go.RowKit Go.Lib Go.Proofs Go.Proofs.YtmeaffkgnmgmeaaW.PrintWords Go.Proofs.YtmeaffkgnmgmeaaW.PrintWords.Kd Go.Proofs.YtmeaffkgnmgmeaaW.PrintLast Go.Proofs.YtmeaffkgnmgmeaaW.PrintMore Go.Proofs.Ytmeaffkgnmgmeaa.G Go.Proofs.Ytmeaffkgnmgmeaa.Fam Go.Proofs.Ytmeaffkgnmgmeaa.Loops Go.Proofs.Ytmeaffkgnmgmeaa.Bits Go.Proofs.Ytmeaffkgnmgmeaa.Sorting Go.Proofs.Ytmeaffkgnmgmeaa.Crowds Go.Proofs.Ytmeaffkgnmgmeaa.Sorted Go.Proofs.Ytmeaffkgnmgmeaa.Idx Go.Proofs.Ytmeaffkgnmgmeaa.Valid Go.Proofs.Ytmeaffkgnmgmeaa.FamLaw Go.Proofs.Ytmeaffkgnmgmeaa.Opens Go.Proofs.Ytmeaffkgnmgmeaa.FamOf Go.Proofs.Ytmeaffkgnmgmeaa.Ops Go.Proofs.Ytmeaffkgnmgmeaa.From Go.Proofs.Ytmeaffkgnmgmeaa.Ref Go.Proofs.Ytmeaffkgnmgmeaa.Ok Go.Proofs.Ytmeaffkgnmgmeaa.SDual Go.Proofs.Ytmeaffkgnmgmeaa.SOpen
set_option linter.unusedVariables false
set_option linter.unusedSimpArgs false

/-- What both ask of the arguments. -/
def GoodOf (n : Int) (gs : List (List Int)) : Prop := (1 ≤ n ∧ n ≤ 7) ∧ gs.length ≤ 200 ∧ ∀ g ∈ gs, isGroupN n.toNat g
instance (n : Int) (gs : List (List Int)) : Decidable (GoodOf n gs) := by unfold GoodOf; exact inferInstance
def FamilyOfF (n : Int) (gs : List (List Int)) : Int × List (List Int) × Int := if GoodOf n gs then (n, famN n.toNat (openN gs), 0) else (0, [], 2)
theorem good_smalls {n : Int} {gs : List (List Int)} (h : GoodOf n gs) : Smalls gs := fun g hg x hx => by
  have := (h.2.2 g hg).1 x hx
  have := h.1
  omega

/-! ### the program's -/
theorem isGroup_calls (n : Nat) (hn : n ≤ 7) (A : Option Addr) (c : Nat) (g : List Int) (W : World) (hC : Kd.C (Kd.int .i64) W A g.length g) (hc : g.length ≤ c) :
    Calls Try.prog 75 #[.int .i64 (n : Int), .slice A g.length c] W fun e w' => e = .returned (.bool (decide (isGroupN n g))) ∧ ∃ q, w' = W.drewN q :=
  (impl_isGroup.calls (g.length + 1) (n : Int) A c g _ W hC hc (isGroup_is n g _ (by omega) hC.2.1 (by omega))).mono fun e w' ⟨he, hd⟩ => ⟨he, hd.out⟩
set_option maxHeartbeats 1000000 in
theorem famOf1_calls (B n : Nat) (hn : n ≤ 7) (A : Option Addr) (c : Nat) (g : List Int) (W : World) (hB : W.cell? ⟨B, 0, none⟩ = some (.int .i64 (n : Int))) (hC : Kd.C (Kd.int .i64) W A g.length g) (hc : g.length ≤ c) :
    Calls Try.prog 84 #[.slice A g.length c, .pointer (some ⟨B, 0, none⟩)] W fun e w' => e = .returned (.bool (!decide (isGroupN n g))) ∧ Below W.heap.size W w' := by
  have HG := fun q => isGroup_calls n hn A c g (W.drewN q) (Kd.C_drewN hC q) hc
  have HG0 := isGroup_calls n hn A c g W hC hc
  clear hC
  generalize decide (isGroupN n g) = b at *
  go_enter Try.func84, Try.ntmps84
  go_wp2_with (go_at_call 75; refine HG0.mono ?_; rintro e w' ⟨rfl, q, rfl⟩)
  go_ret
  exact ⟨rfl, by repeat (first | exact Below.refl _ _ | apply pw_below_drewN)⟩
theorem famOf_pred (B n : Nat) (hn : n ≤ 7) (w : World) (hB : w.cell? ⟨B, 0, none⟩ = some (.int .i64 (n : Int))) :
    PredB Try.prog 84 #[.pointer (some ⟨B, 0, none⟩)] (Kd.slice 2 (Kd.int .i64)) (fun _ => True) (fun g => !decide (isGroupN n g)) w := by
  intro W g v hb _ hK
  obtain ⟨A, cap, e, hcap, hC⟩ := hK
  obtain rfl : v = .slice A g.length cap := by simpa using e
  exact famOf1_calls B n hn A cap g W (pw_cell_below hb hB) hC hcap

/-- The boxes of the number and of the result. -/
def ofW (w : World) (n : Int) : World := (w.alloc (.cells #[.int .i64 n] 2)).alloc (.cells #[.int .i64 0, .slice none 0 0] 27)
theorem ofW_size (w : World) (n : Int) : (ofW w n).heap.size = w.heap.size + 1 + 1 := by simp [ofW]
theorem ofW_below (w : World) (n : Int) : Below w.heap.size w (ofW w n) := below_alloc (below_alloc (Below.refl _ _) _) _
theorem ofW_box (w : World) (n : Int) (W : World) (hb : Below (ofW w n).heap.size (ofW w n) W) : W.cell? ⟨w.heap.size, 0, none⟩ = some (.int .i64 n) ∧ W.heap[w.heap.size + 1]? = some (.cells #[.int .i64 0, .slice none 0 0] 27 (0, 0)) :=
  ⟨pw_cell_below hb (pw_cell_below (below_alloc (Below.refl _ _) _) ((blk_cell (blk_new w (.cells #[.int .i64 n] 2)) 0).trans rfl)), blk_below (blk_at (by simp)) hb⟩

set_option maxHeartbeats 2000000 in
theorem FamilyOf_far (n : Int) (A : Option Addr) (cap : Nat) (gs : List (List Int)) (w : World) (hn : ¬ (1 ≤ n ∧ n ≤ 7)) :
    Calls Try.prog 31 #[.int .i64 n, .slice A gs.length cap] w (FamRes w 0 [] 2) := by
  have hu := Try.underlying27
  have HW := fun W => within_calls n 1 7 W
  rw [decide_eq_false hn] at HW
  have HBX := Aside0.mk (ofW_box w n)
  have hx0 := (HBX.out _ (Below.refl _ _)).1
  clear hn
  go_enter Try.func31, Try.ntmps31
  go_wp2_with (fail)
  rw [show (w.alloc (.cells #[.int .i64 n] 2)).alloc (.cells #[.int .i64 0, .slice none 0 0] 27) = ofW w n from rfl]
  (refine (HW _).mono ?_; rintro e w1 ⟨rfl, q, rfl⟩)
  clear hx0
  have HZ := Aside0.mk (HBX.out _ (pw_below_drewN (Below.refl _ _) q)).2
  have z0 : ((ofW w n).drewN q).cell? ⟨w.heap.size + 1, 0, none⟩ = some (.int .i64 0) := (blk_cell HZ.out 0).trans rfl
  have z1 : ((ofW w n).drewN q).cell? ⟨w.heap.size + 1, 1, none⟩ = some (.slice none 0 0) := (blk_cell HZ.out 1).trans rfl
  have f0 := blk_frozen HZ.out 0
  have f1 := blk_frozen HZ.out 1
  go_wp2_with (fail)
  have p0 := fun a b => put0 (a := a) (b := b) HZ.out
  have p1 := fun a b => put1 (a := a) (b := b) HZ.out
  refine bodyPost_ret (v := .tuple #[.agg #[.int .i64 0, .slice none 0 0], .int .i64 2]) (by simp [results, Try.results31, go_sem, p0, p1]) rfl ⟨_, rfl, S_nil _ _ _ _ _, ?_⟩
  exact below_set (below_set (pw_below_drewN (ofW_below w n) _) (by omega)) (by omega)

set_option maxHeartbeats 2000000 in
theorem FamilyOf_many (n : Int) (A : Option Addr) (cap : Nat) (gs : List (List Int)) (w : World) (hn : 1 ≤ n ∧ n ≤ 7) (hl : ¬ gs.length ≤ 200) :
    Calls Try.prog 31 #[.int .i64 n, .slice A gs.length cap] w (FamRes w 0 [] 2) := by
  have hu := Try.underlying27
  have HW := fun W => within_calls n 1 7 W
  rw [decide_eq_true hn] at HW
  have HBX := Aside0.mk (ofW_box w n)
  have hx0 := (HBX.out _ (Below.refl _ _)).1
  have hd1 : decide ((200 : Int) < (gs.length : Int)) = true := decide_eq_true (by omega)
  have hd2 : decide (200 < gs.length) = true := decide_eq_true (by omega)
  clear hn hl
  generalize gs.length = L at *
  go_enter Try.func31, Try.ntmps31
  go_wp2_with (fail)
  rw [show (w.alloc (.cells #[.int .i64 n] 2)).alloc (.cells #[.int .i64 0, .slice none 0 0] 27) = ofW w n from rfl]
  (refine (HW _).mono ?_; rintro e w1 ⟨rfl, q, rfl⟩)
  clear hx0
  have HZ := Aside0.mk (HBX.out _ (pw_below_drewN (Below.refl _ _) q)).2
  have z0 : ((ofW w n).drewN q).cell? ⟨w.heap.size + 1, 0, none⟩ = some (.int .i64 0) := (blk_cell HZ.out 0).trans rfl
  have z1 : ((ofW w n).drewN q).cell? ⟨w.heap.size + 1, 1, none⟩ = some (.slice none 0 0) := (blk_cell HZ.out 1).trans rfl
  have f0 := blk_frozen HZ.out 0
  have f1 := blk_frozen HZ.out 1
  go_wp2_with (fail)
  have p0 := fun a b => put0 (a := a) (b := b) HZ.out
  have p1 := fun a b => put1 (a := a) (b := b) HZ.out
  refine bodyPost_ret (v := .tuple #[.agg #[.int .i64 0, .slice none 0 0], .int .i64 2]) (by simp [results, Try.results31, go_sem, p0, p1]) rfl ⟨_, rfl, S_nil _ _ _ _ _, ?_⟩
  exact below_set (below_set (pw_below_drewN (ofW_below w n) _) (by omega)) (by omega)

set_option maxHeartbeats 2000000 in
theorem FamilyOf_bad (n : Nat) (A : Option Addr) (cap : Nat) (gs : List (List Int)) (w : World) (hC : dR.C w A gs.length gs) (hn : 1 ≤ n ∧ n ≤ 7) (hl : gs.length ≤ 200) (hb : ¬ ∀ g ∈ gs, isGroupN n g) :
    Calls Try.prog 31 #[.int .i64 (n : Int), .slice A gs.length cap] w (FamRes w 0 [] 2) := by
  have hu := Try.underlying27
  have eg : ∀ args w, (callFunc 84 args).run Try.prog w = .ok (.enter 84 args) w := enters_of Try.func84 (by kernel_rfl) rfl
  have HW := fun W => within_calls (n : Int) 1 7 W
  rw [decide_eq_true (show 1 ≤ (n : Int) ∧ (n : Int) ≤ 7 by omega)] at HW
  have HBX := Aside0.mk (ofW_box w (n : Int))
  have hx0 := (HBX.out _ (Below.refl _ _)).1
  have hd1 : decide ((200 : Int) < (gs.length : Int)) = false := decide_eq_false (by omega)
  have hd2 : decide (200 < gs.length) = false := decide_eq_false (by omega)
  have HCO := fun W (hb : Below (ofW w (n : Int)).heap.size (ofW w (n : Int)) W) => contains_rows (d := dR) rfl 84 #[.pointer (some ⟨w.heap.size, 0, none⟩)] eg (fun g => !decide (isGroupN n g)) (fun _ => True) A cap gs W (C_below (C_below hC (ofW_below w (n : Int))) hb) (fun _ _ => trivial) (famOf_pred w.heap.size n (by omega) W (HBX.out W hb).1)
  have hany : (gs.any fun g => !decide (isGroupN n g)) = true := by
    rw [List.any_eq_true]
    apply Classical.byContradiction
    intro h
    apply hb
    intro g hg
    apply Classical.byContradiction
    intro h2
    exact h ⟨g, hg, by rw [decide_eq_false h2]; rfl⟩
  rw [hany] at HCO
  clear hany hb hC hn hl eg
  generalize gs.length = L at *
  go_enter Try.func31, Try.ntmps31
  go_wp2_with (fail)
  rw [show (w.alloc (.cells #[.int .i64 (n : Int)] 2)).alloc (.cells #[.int .i64 0, .slice none 0 0] 27) = ofW w (n : Int) from rfl]
  (refine (HW _).mono ?_; rintro e w1 ⟨rfl, q, rfl⟩)
  clear hx0
  go_wp2_with (fail)
  (refine (HCO _ (pw_below_drewN (Below.refl _ _) q)).mono ?_; rintro e w2 ⟨rfl, hb2⟩; have HB2 := Aside0.mk (below_then (pw_below_drewN (Below.refl (ofW w (n : Int)).heap.size _) q) (by simp) hb2); clear hb2)
  have HZ := Aside0.mk (HBX.out _ HB2.out).2
  have z0 : w2.cell? ⟨w.heap.size + 1, 0, none⟩ = some (.int .i64 0) := (blk_cell HZ.out 0).trans rfl
  have z1 : w2.cell? ⟨w.heap.size + 1, 1, none⟩ = some (.slice none 0 0) := (blk_cell HZ.out 1).trans rfl
  have f0 := blk_frozen HZ.out 0
  have f1 := blk_frozen HZ.out 1
  go_wp2_with (fail)
  have p0 := fun a b => put0 (a := a) (b := b) HZ.out
  have p1 := fun a b => put1 (a := a) (b := b) HZ.out
  refine bodyPost_ret (v := .tuple #[.agg #[.int .i64 0, .slice none 0 0], .int .i64 2]) (by simp [results, Try.results31, go_sem, p0, p1]) rfl ⟨_, rfl, S_nil _ _ _ _ _, ?_⟩
  exact below_set (below_set (below_then (ofW_below w (n : Int)) (ofW_below w (n : Int)).size HB2.out) (by omega)) (by omega)

set_option maxHeartbeats 4000000 in
theorem FamilyOf_yes (n : Nat) (A : Option Addr) (cap : Nat) (gs : List (List Int)) (w : World) (hC : dR.C w A gs.length gs) (hcap : gs.length ≤ cap) (hg : GoodOf (n : Int) gs) :
    Calls Try.prog 31 #[.int .i64 (n : Int), .slice A gs.length cap] w (FamRes w (n : Int) (famN n (openN gs)) 0) := by
  have hu := Try.underlying27
  have eg : ∀ args w, (callFunc 84 args).run Try.prog w = .ok (.enter 84 args) w := enters_of Try.func84 (by kernel_rfl) rfl
  have eo : ∀ args w, (callFunc 73 args).run Try.prog w = .ok (.enter 73 args) w := enters_of Try.func73 (by kernel_rfl) rfl
  have hn1 := hg.1
  have hn : n ≤ 7 := by omega
  have h7 : 2 ^ n ≤ 128 := two_pow_le hn
  have hl := hg.2.1
  have hgr := hg.2.2
  rw [Int.toNat_natCast] at hgr
  have HW := fun W => within_calls (n : Int) 1 7 W
  rw [decide_eq_true hn1] at HW
  have HBX := Aside0.mk (ofW_box w (n : Int))
  have hx0 := (HBX.out _ (Below.refl _ _)).1
  have hd1 : decide ((200 : Int) < (gs.length : Int)) = false := decide_eq_false (by omega)
  have hd2 : decide (200 < gs.length) = false := decide_eq_false (by omega)
  have HCO := fun W (hb : Below (ofW w (n : Int)).heap.size (ofW w (n : Int)) W) => contains_rows (d := dR) rfl 84 #[.pointer (some ⟨w.heap.size, 0, none⟩)] eg (fun g => !decide (isGroupN n g)) (fun _ => True) A cap gs W (C_below (C_below hC (ofW_below w (n : Int))) hb) (fun _ _ => trivial) (famOf_pred w.heap.size n (by omega) W (HBX.out W hb).1)
  have hany : (gs.any fun g => !decide (isGroupN n g)) = false := by
    rw [List.any_eq_false]
    intro g hg'
    rw [decide_eq_true (hgr g hg')]
    simp
  rw [hany] at HCO
  have HFO := fun W (hb : Below w.heap.size w W) => familyOf_calls n hn 73 #[.agg #[.int .i64 (n : Int), .slice A gs.length cap]] #[] eo (openN gs) W (fun W' c hb' hc => opens_calls (n : Int) A cap gs c W' (C_below (C_below hC hb) hb') hcap (good_smalls hg) (by omega))
  clear hany hC hn1 hl eg hgr h7 eo hg hcap
  generalize famN n (openN gs) = F at *
  generalize gs.length = L at *
  go_enter Try.func31, Try.ntmps31
  go_wp2_with (fail)
  rw [show (w.alloc (.cells #[.int .i64 (n : Int)] 2)).alloc (.cells #[.int .i64 0, .slice none 0 0] 27) = ofW w (n : Int) from rfl]
  (refine (HW _).mono ?_; rintro e w1 ⟨rfl, q, rfl⟩)
  clear hx0
  go_wp2_with (fail)
  (refine (HCO _ (pw_below_drewN (Below.refl _ _) q)).mono ?_; rintro e w2 ⟨rfl, hb2⟩; have HB2 := Aside0.mk (below_then (pw_below_drewN (Below.refl (ofW w (n : Int)).heap.size _) q) (by simp) hb2); clear hb2)
  have hx0 := (HBX.out _ HB2.out).1
  have HW2 := Aside0.mk (below_then (ofW_below w (n : Int)) (ofW_below w (n : Int)).size HB2.out)
  go_wp2_with (fail)
  (refine (HFO _ HW2.out).mono ?_; clear hx0; rintro e w3 ⟨v3, rfl, hs3, hb3⟩; obtain ⟨A3, c3, rfl⟩ := S_slice hs3; have HS3 := Aside0.mk hs3; have HB3 := Aside0.mk (below_then HB2.out HB2.out.size hb3); clear hs3 hb3)
  have HZ := Aside0.mk (HBX.out _ HB3.out).2
  have z0 : w3.cell? ⟨w.heap.size + 1, 0, none⟩ = some (.int .i64 0) := (blk_cell HZ.out 0).trans rfl
  have z1 : w3.cell? ⟨w.heap.size + 1, 1, none⟩ = some (.slice none 0 0) := (blk_cell HZ.out 1).trans rfl
  have f0 := blk_frozen HZ.out 0
  have f1 := blk_frozen HZ.out 1
  go_wp2_with (fail)
  have p0 := fun a b => put0 (a := a) (b := b) HZ.out
  have p1 := fun a b => put1 (a := a) (b := b) HZ.out
  refine bodyPost_ret (v := .tuple #[.agg #[.int .i64 (n : Int), .slice A3 F.length c3], .int .i64 0]) (by simp [results, Try.results31, go_sem, p0, p1]) rfl ⟨_, rfl, S_put HZ.out (S_lower HS3.out HW2.out.size), ?_⟩
  exact below_set (below_set (below_then (ofW_below w (n : Int)) (ofW_below w (n : Int)).size HB3.out) (by omega)) (by omega)
theorem FamilyOfF_calls (n : Int) (A : Option Addr) (cap : Nat) (gs : List (List Int)) (w : World) (hC : dR.C w A gs.length gs) (hcap : gs.length ≤ cap) :
    Calls Try.prog 31 #[.int .i64 n, .slice A gs.length cap] w (FamRes w (FamilyOfF n gs).1 (FamilyOfF n gs).2.1 (FamilyOfF n gs).2.2) := by
  unfold FamilyOfF
  by_cases hg : GoodOf n gs
  · rw [if_pos hg]
    obtain ⟨m, rfl⟩ : ∃ m : Nat, n = (m : Int) := ⟨n.toNat, by have := hg.1; omega⟩
    rw [Int.toNat_natCast]
    exact FamilyOf_yes m A cap gs w hC hcap hg
  · rw [if_neg hg]
    by_cases hn : 1 ≤ n ∧ n ≤ 7
    · by_cases hl : gs.length ≤ 200
      · obtain ⟨m, rfl⟩ : ∃ m : Nat, n = (m : Int) := ⟨n.toNat, by omega⟩
        exact FamilyOf_bad m A cap gs w hC (by omega) hl (fun h => hg ⟨hn, hl, by rw [Int.toNat_natCast]; exact h⟩)
      · exact FamilyOf_many n A cap gs w hn hl
    · exact FamilyOf_far n A cap gs w hn

end Go.Proofs.Ytmeaffkgnmgmeaa.FamilyOf
