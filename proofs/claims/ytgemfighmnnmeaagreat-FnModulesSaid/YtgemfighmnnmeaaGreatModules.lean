/- Contract of ModulesOf. -/
import Derived.Test.YtgemfighmnnmeaaGreatIsMod
import Derived.Test.YtgemfighmnnmeaaGreatOpening
namespace Go.Proofs.YtgemfighmnnmeaaGreat.Modules
open Go.RowKit Go.Proofs.YtgemfighmnnmeaaGreatW.PrintWords Go.Proofs.YtgemfighmnnmeaaGreatW.PrintWords.Kd Go.Proofs.YtgemfighmnnmeaaGreatW.PrintLast Go.Proofs.YtgemfighmnnmeaaGreatW.PrintMore Go.Proofs.YtgemfighmnnmeaaGreat.G Go.Proofs.YtgemfighmnnmeaaGreat.Fam Go.Proofs.YtgemfighmnnmeaaGreat.Bits Go.Proofs.YtgemfighmnnmeaaGreat.Loops Go.Proofs.YtgemfighmnnmeaaGreat.Valid Go.Proofs.YtgemfighmnnmeaaGreat.FamLaw Go.Proofs.YtgemfighmnnmeaaGreat.Opens Go.Proofs.YtgemfighmnnmeaaGreat.Idx Go.Proofs.YtgemfighmnnmeaaGreat.Sorting Go.Proofs.YtgemfighmnnmeaaGreat.Crowds Go.Proofs.YtgemfighmnnmeaaGreat.FamOf Go.Proofs.YtgemfighmnnmeaaGreat.Ops Go.Proofs.YtgemfighmnnmeaaGreat.Opening Go.Proofs.YtgemfighmnnmeaaGreat.ModN Go.Proofs.YtgemfighmnnmeaaGreat.ModF Go.Proofs.YtgemfighmnnmeaaGreat.IsMod
set_option linter.unusedVariables false
set_option linter.unusedSimpArgs false

/-- The sets that are modules. -/
def modP (n : Nat) (gs : List (List Int)) (c : Nat) : Bool := isModB n gs (groupN c)
set_option maxHeartbeats 2000000 in
theorem modules1_calls (n : Nat) (A : Option Addr) (cap : Nat) (gs : List (List Int)) (hcap : gs.length ≤ cap) (hv : ValidF (n : Int) gs) (B1 : Nat) (w : World) (h1 : FamBox w B1 (n : Int) A cap gs) (c : Nat) (hc : c < 2 ^ n) :
  Calls Tryz.prog 20 #[.int .u64 (c : Int), .pointer (some ⟨B1, 0, none⟩)] w fun e w' => e = .returned (.bool (modP n gs c)) ∧ Below w.heap.size w w' := by
 have hn : n ≤ 7 := by have := hv.1; omega
 have h7 := two_pow_le hn
 have HG := fun W => group_calls c (by omega) W
 have HM := fun W A' c' h h' hc' => isModule_calls n A cap gs A' c' (groupN c) W h hcap h' hc' hv (groupN_is hn hc)
 have C1 := Aside0.mk h1.1
 have C2 := Aside0.mk h1.2.1
 have C3 := Aside0.mk h1.2.2
 have hu := Tryz.underlying26
 clear h1 hv h7 hc
 have HMP : Aside0 (modP n gs c = isModB n gs (groupN c)) := ⟨rfl⟩
 generalize isModB n gs (groupN c) = b at *
 generalize groupN c = g at *
 go_enter Tryz.func20, Tryz.ntmps20
 go_wp2_with (fail)
 go_region_held3 (fun W' => W'.cell? ⟨B1, 0, none⟩ = some (.int .i64 (n : Int)) ∧ W'.cell? ⟨B1, 1, none⟩ = some (.slice A gs.length cap) ∧ Below w.heap.size w W') ((refine keep3 C1.out C2.out ?_; repeat (first | assumption | exact Below.refl _ _ | apply below_drew | apply pw_below_drewN))) (first | (go_at_call 22; refine (HG _).mono ?_; rintro e w2 ⟨v2, rfl, hr2, hb2⟩; obtain ⟨A2, c2, rfl⟩ := R_slice hr2; have HR2 := Aside0.mk (R_reads' hr2); have HB2 := below_then (B := w.heap.size) (show Below w.heap.size w _ from by repeat (first | assumption | exact Below.refl _ _ | apply below_drew | apply pw_below_drewN)) (by simp) hb2; clear hr2 hb2) | (go_at_call 21; refine (HM _ _ _ (C_below C3.out ?_) (by repeat (first | exact HR2.out.2.2 | apply C_drewN | apply C_drew)) HR2.out.2.1).mono ?_; (repeat (first | assumption | exact Below.refl _ _ | apply below_drew | apply pw_below_drewN)); rintro e w9 ⟨rfl, hb9⟩; have HB9 := below_then (B := w.heap.size) (show Below w.heap.size w _ from by repeat (first | assumption | exact Below.refl _ _ | apply below_drew | apply pw_below_drewN)) (by have h_ := HB2.size; (try simp at h_ ⊢); omega) hb9; clear hb9))
 go_wp2_with (fail)
 go_ret
 exact ⟨by rw [HMP.out]; rfl, HB9⟩

set_option maxHeartbeats 2000000 in
theorem Modules_no (n : Int) (A : Option Addr) (cap : Nat) (gs : List (List Int)) (w : World) (hC : dR.C w A gs.length gs) (hcap : gs.length ≤ cap) (hv : ¬ ValidF n gs) :
  Calls Tryz.prog 6 #[.agg #[.int .i64 n, .slice A gs.length cap]] w (RowsRes w [] 1) := by
 have hu := Tryz.underlying26
 have HV := fun W h => valid_calls n A cap gs W h hcap
 rw [decide_eq_false hv] at HV
 have HC := Aside0.mk hC
 clear hC hv
 go_enter Tryz.func6, Tryz.ntmps6
 go_wp2_with (go_at_call 18; refine (HV _ (Kd.C_alloc HC.out _)).mono ?_; rintro e w1 ⟨rfl, hb1⟩; have HB := Aside0.mk hb1; clear hb1)
 refine bodyPost_ret (v := .tuple #[.slice none 0 0, .int .i64 1]) (by simp [results, Tryz.results6, go_sem]) rfl ⟨_, rfl, S_nil _ _ _ _ _, below_then (below_alloc (Below.refl _ _) _) (by simp) HB.out⟩

set_option maxHeartbeats 2000000 in
theorem Modules_yes (n : Nat) (A : Option Addr) (cap : Nat) (gs : List (List Int)) (w : World) (hC : dR.C w A gs.length gs) (hcap : gs.length ≤ cap) (hv : ValidF (n : Int) gs) :
  Calls Tryz.prog 6 #[.agg #[.int .i64 (n : Int), .slice A gs.length cap]] w (RowsRes w (crowdsN n (modP n gs)) 0) := by
 have hu := Tryz.underlying26
 have hn : n ≤ 7 := by have := hv.1; omega
 have eg : ∀ args w, (callFunc 20 args).run Tryz.prog w = .ok (.enter 20 args) w := enters_of Tryz.func20 (by kernel_rfl) rfl
 have HV := fun W h => valid_calls (n : Int) A cap gs W h hcap
 rw [decide_eq_true hv] at HV
 have HCR := fun W (h : FamBox W w.heap.size (n : Int) A cap gs) => crowds_calls n hn 20 #[] #[.pointer (some ⟨w.heap.size, 0, none⟩)] eg (modP n gs) W (fun W' c hb hc => modules1_calls n A cap gs hcap hv w.heap.size W' (h.later hb) c hc)
 have HBX := Aside0.mk (FamBox.new w (n : Int) A cap gs 26 hC)
 have HC := Aside0.mk hC
 clear hC hv
 generalize hF : crowdsN n (modP n gs) = F at *
 clear hF
 go_enter Tryz.func6, Tryz.ntmps6
 go_wp2_with (first | (go_at_call 18; refine (HV _ (Kd.C_alloc HC.out _)).mono ?_; rintro e w1 ⟨rfl, hb1⟩; have HX := Aside0.mk (HBX.out.later hb1); have cf0 := HX.out.1; have cf1 := HX.out.2.1; have HB := Aside0.mk hb1; clear hb1) | (go_at_call 19; refine (HCR _ HX.out).mono ?_; rintro e w2 ⟨v2, rfl, hs2, hb2⟩; have HS := Aside0.mk hs2; have HB2 := Aside0.mk hb2; clear hs2 hb2))
 have h1 : Below w.heap.size w w1 := below_then (below_alloc (Below.refl _ _) _) (by simp) HB.out
 refine bodyPost_ret (v := .tuple #[v2, .int .i64 0]) (by simp [results, Tryz.results6, go_sem]) rfl ⟨_, rfl, S_lower HS.out h1.size, below_then h1 h1.size HB2.out⟩

def ModulesF (n : Int) (gs : List (List Int)) : List (List Int) × Int := if ValidF n gs then (crowdsN n.toNat (modP n.toNat gs), 0) else ([], 1)
theorem ModulesF_calls (n : Int) (A : Option Addr) (cap : Nat) (gs : List (List Int)) (w : World) (hC : dR.C w A gs.length gs) (hcap : gs.length ≤ cap) :
  Calls Tryz.prog 6 #[.agg #[.int .i64 n, .slice A gs.length cap]] w (RowsRes w (ModulesF n gs).1 (ModulesF n gs).2) := by
 unfold ModulesF
 by_cases hv : ValidF n gs
 ·
  rw [if_pos hv]
  obtain ⟨m, rfl⟩ : ∃ m : Nat, n = (m : Int) := ⟨n.toNat, by have := hv.1; omega⟩
  rw [Int.toNat_natCast]
  exact Modules_yes m A cap gs w hC hcap hv
 ·
  rw [if_neg hv]
  exact Modules_no n A cap gs w hC hcap hv

end Go.Proofs.YtgemfighmnnmeaaGreat.Modules
