/- Contract of PutFamily, at right arguments. -/
import Derived.Test.YtgemfighmnnmeaaGreatLeave
namespace Go.Proofs.YtgemfighmnnmeaaGreat.Put
open Go.RowKit Go.Proofs.YtgemfighmnnmeaaGreatW.PrintWords Go.Proofs.YtgemfighmnnmeaaGreatW.PrintWords.Kd Go.Proofs.YtgemfighmnnmeaaGreatW.PrintLast Go.Proofs.YtgemfighmnnmeaaGreatW.PrintMore Go.Proofs.YtgemfighmnnmeaaGreat.G Go.Proofs.YtgemfighmnnmeaaGreat.Fam Go.Proofs.YtgemfighmnnmeaaGreat.Bits Go.Proofs.YtgemfighmnnmeaaGreat.Loops Go.Proofs.YtgemfighmnnmeaaGreat.Valid Go.Proofs.YtgemfighmnnmeaaGreat.Opens Go.Proofs.YtgemfighmnnmeaaGreat.Idx Go.Proofs.YtgemfighmnnmeaaGreat.Sorting Go.Proofs.YtgemfighmnnmeaaGreat.Crowds Go.Proofs.YtgemfighmnnmeaaGreat.FamOf Go.Proofs.YtgemfighmnnmeaaGreat.Ops Go.Proofs.YtgemfighmnnmeaaGreat.Leave
set_option linter.unusedVariables false
set_option linter.unusedSimpArgs false

theorem shl1u_all : ∀ h : Fin 7, ∀ c : Fin 128, Go.bits .or .u64 ((c.val : Nat) : Int) (IntKind.u64.wrap (2 ^ h.val)) = ((c.val ||| 1 <<< h.val : Nat) : Int) := by decide +kernel
/-- The family's set of a set in which the other family stands for holder h; a: one holder less than the family has. -/
def putD (gs : List (List Int)) (a h : Nat) (hs : List (List Int)) (c : Nat) : Nat := if openN hs (c / 2 ^ a) = true then wideN (c % 2 ^ a) h ||| 1 <<< h else wideN (c % 2 ^ a) h
def putP (gs : List (List Int)) (a h : Nat) (hs : List (List Int)) (c : Nat) : Bool := openN gs (putD gs a h hs c)
theorem keep3 {w W : World} {a1 a2 a3 : Addr} {v1 v2 v3 : Value} (h1 : w.cell? a1 = some v1) (h2 : w.cell? a2 = some v2) (h3 : w.cell? a3 = some v3) (hb : Below w.heap.size w W) :
  W.cell? a1 = some v1 ∧ W.cell? a2 = some v2 ∧ W.cell? a3 = some v3 ∧ Below w.heap.size w W := ⟨pw_cell_below hb h1, pw_cell_below hb h2, pw_cell_below hb h3, hb⟩
theorem low_all : ∀ a : Fin 7, ∀ c : Fin 128, Go.bits .and .u64 ((c.val : Nat) : Int) ((2 ^ a.val - 1 : Nat) : Int) = ((c.val % 2 ^ a.val : Nat) : Int) := by decide +kernel

set_option maxHeartbeats 2000000 in
set_option maxRecDepth 100000 in
theorem put1_calls (a m : Nat) (ha : a ≤ 6) (hm : m ≤ 7) (A A' : Option Addr) (cap cap' : Nat) (gs hs : List (List Int)) (hcap : gs.length ≤ cap) (hcap' : hs.length ≤ cap') (hs1 : Smalls gs) (hs2 : Smalls hs) (B8 Bh Bg Bf : Nat) (w : World)
  (h1 : FamBox w Bf ((a : Int) + 1) A cap gs) (h2 : FamBox w Bg (m : Int) A' cap' hs) (h : Nat) (hh : h ≤ a) (h3 : w.cell? ⟨Bh, 0, none⟩ = some (.int .i64 (h : Int))) (h4 : w.cell? ⟨B8, 0, none⟩ = some (.int .u64 ((2 ^ a - 1 : Nat) : Int))) (c : Nat) (hc : c < 128) :
  Calls Tryz.prog 35 #[.int .u64 (c : Int), .pointer (some ⟨B8, 0, none⟩), .pointer (some ⟨Bh, 0, none⟩), .pointer (some ⟨Bg, 0, none⟩), .pointer (some ⟨Bf, 0, none⟩)] w fun e w' => e = .returned (.bool (putP gs a h hs c)) ∧ Below w.heap.size w w' := by
 have h6 : 2 ^ a ≤ 64 := by have := Nat.pow_le_pow_right (n := 2) (by omega) ha; simpa using this
 have hp2 : 0 < 2 ^ a := Nat.two_pow_pos a
 have hlt : c % 2 ^ a < 2 ^ a := Nat.mod_lt _ hp2
 have hw := wide_lt ha hlt hh
 have h7 : 2 ^ (a + 1) ≤ 128 := by rw [Nat.pow_succ]; omega
 have hand := low_all ⟨a, by omega⟩ ⟨c, hc⟩
 simp only at hand
 have hdiv : (c : Int) / 2 ^ a = ((c / 2 ^ a : Nat) : Int) := by push_cast; rfl
 have hdl : c / 2 ^ a < 128 := Nat.lt_of_le_of_lt (Nat.div_le_self _ _) hc
 have HW := fun W => widened_calls (c % 2 ^ a) h (by omega) (by omega) W
 have HG := fun W hb => opens_calls (m : Int) A' cap' hs (c / 2 ^ a) W (C_below h2.2.2 hb) hcap' hs2 hdl
 have hor := shl1u_all ⟨h, by omega⟩ ⟨wideN (c % 2 ^ a) h, by omega⟩
 simp only at hor
 have HFa := fun d (hd : d < 128) W hb => opens_calls ((a : Int) + 1) A cap gs d W (C_below h1.2.2 hb) hcap hs1 hd
 have HP : Aside0 (putP gs a h hs c = openN gs (if openN hs (c / 2 ^ a) = true then wideN (c % 2 ^ a) h ||| 1 <<< h else wideN (c % 2 ^ a) h)) := ⟨rfl⟩
 have hd1 : wideN (c % 2 ^ a) h < 128 := by omega
 have hd2 : wideN (c % 2 ^ a) h ||| 1 <<< h < 128 := by omega
 have HF1 := fun W hb => HFa _ hd1 W hb
 have HF2 := fun W hb => HFa _ hd2 W hb
 have C1 := Aside0.mk h1.1
 have C2 := Aside0.mk h1.2.1
 have D1 := Aside0.mk h2.1
 have D2 := Aside0.mk h2.2.1
 have E1 := Aside0.mk h3
 have E2 := Aside0.mk h4
 have c1 := h1.1
 have c2 := h1.2.1
 have hu := Tryz.underlying26
 clear h1 h2 hdl hd1 hd2 HFa hw h7 hlt hp2 h6 hc
 generalize ((2 ^ a - 1 : Nat) : Int) = own at *
 generalize c / 2 ^ a = v at *
 generalize c % 2 ^ a = u at *
 generalize wideN u h ||| 1 <<< h = d2 at *
 generalize wideN u h = d1 at *
 have hh0 : (0 : Int) ≤ (h : Int) := Int.natCast_nonneg _
 have ha0 : (0 : Int) ≤ (a : Int) := Int.natCast_nonneg _
 have hia : IntKind.i64.wrap (a : Int) = (a : Int) := IntWalk.i64_in _ (by omega)
 cases hq : openN hs v with
 | true =>
  rw [hq] at HG
  have HQ := Aside0.mk hq
  clear hq
  go_enter Tryz.func35, Tryz.ntmps35
  go_wp2_with (go_at_call 36; refine (HW _).mono ?_; rintro e w' ⟨rfl, q, rfl⟩)
  go_region_held3 (fun W => W.cell? ⟨Bg, 0, none⟩ = some (.int .i64 (m : Int)) ∧ W.cell? ⟨Bg, 1, none⟩ = some (.slice A' hs.length cap') ∧ W.cell? ⟨Bf, 0, none⟩ = some (.int .i64 ((a : Int) + 1)) ∧ Below w.heap.size w W) ((refine keep3 D1.out D2.out C1.out ?_; repeat (first | assumption | exact Below.refl _ _ | apply below_drew | apply pw_below_drewN))) (first | (go_at_call 30; refine (HG _ (pw_below_drewN (Below.refl _ _) _)).mono ?_; rintro e w9 ⟨rfl, hb9⟩; have HB9 := below_then (pw_below_drewN (Below.refl w.heap.size w) _) (by simp) hb9; have k1 := pw_cell_below HB9 C1.out; have k2 := pw_cell_below HB9 C2.out; have k3 := pw_cell_below HB9 E1.out; clear hb9))
  go_wp2_with (go_at_call 30; refine (HF2 _ HB9).mono ?_; rintro e w5 ⟨rfl, hb5⟩; have HB5 := Aside0.mk (below_then HB9 HB9.size hb5); clear hb5)
  go_ret
  exact ⟨by rw [HP.out, HQ.out, if_pos rfl]; rfl, HB5.out⟩
 | false =>
  rw [hq] at HG
  have HQ := Aside0.mk hq
  clear hq
  go_enter Tryz.func35, Tryz.ntmps35
  go_wp2_with (go_at_call 36; refine (HW _).mono ?_; rintro e w' ⟨rfl, q, rfl⟩)
  go_region_held3 (fun W => W.cell? ⟨Bg, 0, none⟩ = some (.int .i64 (m : Int)) ∧ W.cell? ⟨Bg, 1, none⟩ = some (.slice A' hs.length cap') ∧ W.cell? ⟨Bf, 0, none⟩ = some (.int .i64 ((a : Int) + 1)) ∧ Below w.heap.size w W) ((refine keep3 D1.out D2.out C1.out ?_; repeat (first | assumption | exact Below.refl _ _ | apply below_drew | apply pw_below_drewN))) (first | (go_at_call 30; refine (HG _ (pw_below_drewN (Below.refl _ _) _)).mono ?_; rintro e w9 ⟨rfl, hb9⟩; have HB9 := below_then (pw_below_drewN (Below.refl w.heap.size w) _) (by simp) hb9; have k1 := pw_cell_below HB9 C1.out; have k2 := pw_cell_below HB9 C2.out; have k3 := pw_cell_below HB9 E1.out; clear hb9))
  go_wp2_with (go_at_call 30; refine (HF1 _ HB9).mono ?_; rintro e w5 ⟨rfl, hb5⟩; have HB5 := Aside0.mk (below_then HB9 HB9.size hb5); clear hb5)
  go_ret
  exact ⟨by rw [HP.out, HQ.out, if_neg (by simp)]; rfl, HB5.out⟩

/-- The boxes of PutFamily's parameters and its result's variable. -/
def putW (w : World) (n : Int) (A : Option Addr) (cap : Nat) (gs : List (List Int)) (h m : Int) (A' : Option Addr) (cap' : Nat) (hs : List (List Int)) : World :=
 (((w.alloc (.cells #[.int .i64 n, .slice A gs.length cap] 26)).alloc (.cells #[.int .i64 h] 2)).alloc (.cells #[.int .i64 m, .slice A' hs.length cap'] 26)).alloc (.cells #[.int .i64 0, .slice none 0 0] 26)
theorem putW_size (w : World) (n : Int) (A : Option Addr) (cap : Nat) (gs : List (List Int)) (h m : Int) (A' : Option Addr) (cap' : Nat) (hs : List (List Int)) : (putW w n A cap gs h m A' cap' hs).heap.size = w.heap.size + 1 + 1 + 1 + 1 := by simp [putW]
theorem putW_below (w : World) (n : Int) (A : Option Addr) (cap : Nat) (gs : List (List Int)) (h m : Int) (A' : Option Addr) (cap' : Nat) (hs : List (List Int)) : Below w.heap.size w (putW w n A cap gs h m A' cap' hs) := below_alloc (below_alloc (below_alloc (below_alloc (Below.refl _ _) _) _) _) _
theorem putW_boxes (w : World) (n : Int) (A : Option Addr) (cap : Nat) (gs : List (List Int)) (h m : Int) (A' : Option Addr) (cap' : Nat) (hs : List (List Int)) (hC : dR.C w A gs.length gs) (hC' : dR.C w A' hs.length hs) (W : World) (hb : Below (putW w n A cap gs h m A' cap' hs).heap.size (putW w n A cap gs h m A' cap' hs) W) :
  FamBox W w.heap.size n A cap gs ∧ W.cell? ⟨w.heap.size + 1, 0, none⟩ = some (.int .i64 h) ∧ FamBox W (w.heap.size + 1 + 1) m A' cap' hs ∧ W.heap[w.heap.size + 1 + 1 + 1]? = some (.cells #[.int .i64 0, .slice none 0 0] 26 (0, 0)) := by
 refine ⟨((FamBox.new w n A cap gs 26 hC).later (by unfold putW at *; exact below_alloc (below_alloc (below_alloc (Below.refl _ _) _) _) _)).later hb, ?_, ?_, ?_⟩
 ·
  exact pw_cell_below hb ((blk_cell (blk_alloc (blk_alloc (blk_at (by simp)) _) _) 0).trans rfl)
 ·
  have h1 := FamBox.new ((w.alloc (.cells #[.int .i64 n, .slice A gs.length cap] 26)).alloc (.cells #[.int .i64 h] 2)) m A' cap' hs 26 (Kd.C_alloc (Kd.C_alloc hC' _) _)
  have h2 := (h1.later (W' := putW w n A cap gs h m A' cap' hs) (below_alloc (Below.refl _ _) _)).later hb
  simpa using h2
 ·
  exact blk_below (blk_at (by simp)) hb

set_option maxHeartbeats 4000000 in
set_option maxRecDepth 100000 in
theorem put_yes (a m : Nat) (ha : a ≤ 6) (hm1 : 1 ≤ m) (ham : a + m ≤ 7) (A A' : Option Addr) (cap cap' : Nat) (gs hs : List (List Int)) (h : Nat) (hh : h ≤ a) (w : World) (hC : dR.C w A gs.length gs) (hcap : gs.length ≤ cap) (hC' : dR.C w A' hs.length hs) (hcap' : hs.length ≤ cap') (hv : ValidF ((a : Int) + 1) gs) (hv' : ValidF (m : Int) hs) :
  Calls Tryz.prog 10 #[.agg #[.int .i64 ((a : Int) + 1), .slice A gs.length cap], .int .i64 (h : Int), .agg #[.int .i64 (m : Int), .slice A' hs.length cap']] w (FamRes w ((a + m : Nat) : Int) (famN (a + m) (putP gs a h hs)) 0) := by
 have hu := Tryz.underlying26
 have eg : ∀ args w, (callFunc 35 args).run Tryz.prog w = .ok (.enter 35 args) w := enters_of Tryz.func35 (by kernel_rfl) rfl
 have HV := fun W h => valid_calls ((a : Int) + 1) A cap gs W h hcap
 rw [decide_eq_true hv] at HV
 have HV' := fun W h => valid_calls (m : Int) A' cap' hs W h hcap'
 rw [decide_eq_true hv'] at HV'
 have HW := fun W => within_calls (h : Int) 0 (a : Int) W
 rw [decide_eq_true (show 0 ≤ (h : Int) ∧ (h : Int) ≤ (a : Int) by omega)] at HW
 have HEV := fun W => everybody_calls a (by omega) W
 have h7 : 2 ^ (a + m) ≤ 128 := by have := Nat.pow_le_pow_right (n := 2) (by omega) ham; simpa using this
 have HF := fun W B8 (hx : FamBox W w.heap.size ((a : Int) + 1) A cap gs ∧ W.cell? ⟨w.heap.size + 1, 0, none⟩ = some (.int .i64 (h : Int)) ∧ FamBox W (w.heap.size + 1 + 1) (m : Int) A' cap' hs) (h8 : W.cell? ⟨B8, 0, none⟩ = some (.int .u64 ((2 ^ a - 1 : Nat) : Int))) => familyOf_calls (a + m) (by omega) 35 #[] #[.pointer (some ⟨B8, 0, none⟩), .pointer (some ⟨w.heap.size + 1, 0, none⟩), .pointer (some ⟨w.heap.size + 1 + 1, 0, none⟩), .pointer (some ⟨w.heap.size, 0, none⟩)] eg (putP gs a h hs) W
  (fun W' c hbw hc => put1_calls a m ha (by omega) A A' cap cap' gs hs hcap hcap' (smalls_of hv) (smalls_of hv') B8 (w.heap.size + 1) (w.heap.size + 1 + 1) w.heap.size W' (hx.1.later hbw) (hx.2.2.later hbw) h hh (pw_cell_below hbw hx.2.1) (pw_cell_below hbw h8) c (by omega))
 generalize hFF : famN (a + m) (putP gs a h hs) = F at *
 have HFF := Aside0.mk hFF
 have hnm : ((a + m : Nat) : Int) = (a : Int) + (m : Int) := by push_cast; rfl
 rw [hnm] at HF ⊢
 have hlim : decide ((7 : Int) < (a : Int) + (m : Int)) = false := decide_eq_false (by omega)
 obtain ⟨n, hn⟩ : ∃ n : Int, n = (a : Int) + 1 := ⟨_, rfl⟩
 rw [← hn] at HV HF hv ⊢
 have hna : n - 1 = (a : Int) := by omega
 have HN := Aside0.mk hn
 clear hn
 have HBX := Aside0.mk (putW_boxes w n A cap gs (h : Int) (m : Int) A' cap' hs hC hC')
 have HWB := Aside0.mk (putW_below w n A cap gs (h : Int) (m : Int) A' cap' hs)
 have HWS := Aside0.mk (putW_size w n A cap gs (h : Int) (m : Int) A' cap' hs)
 have HC := Aside0.mk (C_below hC HWB.out)
 have HC' := Aside0.mk (C_below hC' HWB.out)
 clear hC hC' hFF hnm h7 hv hv'
 have ha7 : (a : Int) ≤ 6 := by omega
 have hm7 : (a : Int) + (m : Int) ≤ 7 := by omega
 generalize ((2 ^ a - 1 : Nat) : Int) = own at *
 go_enter Tryz.func10, Tryz.ntmps10
 go_wp2_with (fail)
 rw [show (((w.alloc (.cells #[.int .i64 n, .slice A gs.length cap] 26)).alloc (.cells #[.int .i64 (h : Int)] 2)).alloc (.cells #[.int .i64 (m : Int), .slice A' hs.length cap'] 26)).alloc (.cells #[.int .i64 0, .slice none 0 0] 26) = putW w n A cap gs (h : Int) (m : Int) A' cap' hs from rfl]
 go_wp2_with (first | (go_at_call_of 18 (Value.agg #[.int .i64 n, .slice A gs.length cap]); refine (HV _ HC.out).mono ?_; rintro e w1 ⟨rfl, hb1⟩; have HX := Aside0.mk (HBX.out w1 hb1); have cg0 := HX.out.2.2.1.1; have cg1 := HX.out.2.2.1.2.1; have HB := Aside0.mk hb1; clear hb1) | (go_at_call 18; refine (HV' _ (C_below HC'.out HB.out)).mono ?_; rintro e w2 ⟨rfl, hb2⟩; have HB2 := Aside0.mk (below_then HB.out HB.out.size hb2); have HX2 := Aside0.mk (HBX.out w2 HB2.out); have ch := HX2.out.2.1; have cf0 := HX2.out.1.1; have cg3 := HX2.out.2.2.1.1; clear hb2) | (go_at_call 34; refine (HW _).mono ?_; rintro e w' ⟨rfl, q, rfl⟩) | (go_at_call 28; refine (HEV _).mono ?_; clear ch cf0 cg3 cg0 cg1; rintro e w3 ⟨rfl, q2, hw3⟩; have HB3 := Aside0.mk (show Below (putW w n A cap gs (h : Int) (m : Int) A' cap' hs).heap.size (putW w n A cap gs (h : Int) (m : Int) A' cap' hs) w3 by rw [hw3]; repeat (first | exact HB2.out | apply pw_below_drewN)); have HX8 := Aside0.mk (HBX.out (w3.alloc (.cells #[.int .u64 own] 47)) (HB3.out.alloc HB3.out.size _)); have cf8 := HX8.out.1.1; have cg8 := HX8.out.2.2.1.1; have HO8 := Aside0.mk ((blk_cell (blk_new w3 (.cells #[.int .u64 own] 47)) 0).trans rfl); clear hw3) | (go_at_call 26; clear cf8 cg8; refine (HF _ w3.heap.size ⟨HX8.out.1, HX8.out.2.1, HX8.out.2.2.1⟩ HO8.out).mono ?_; rintro e w4 ⟨v4, rfl, hs4, hb4⟩; have HZ := Aside0.mk (blk_below HX8.out.2.2.2 hb4); have z0 : w4.cell? ⟨w.heap.size + 1 + 1 + 1, 0, none⟩ = some (.int .i64 0) := (blk_cell HZ.out 0).trans rfl; have z1 : w4.cell? ⟨w.heap.size + 1 + 1 + 1, 1, none⟩ = some (.slice none 0 0) := (blk_cell HZ.out 1).trans rfl; have f0 := blk_frozen HZ.out 0; have f1 := blk_frozen HZ.out 1; obtain ⟨A4, c4, rfl⟩ := S_slice hs4; have HS := Aside0.mk hs4; have HB4 := Aside0.mk hb4; clear hs4 hb4))
 have p0 := fun a b => put0 (a := a) (b := b) HZ.out
 have p1 := fun a b => put1 (a := a) (b := b) HZ.out
 have hs0 : (putW w n A cap gs (h : Int) (m : Int) A' cap' hs).heap.size ≤ w3.heap.size := HB3.out.size
 have hws : w.heap.size ≤ (putW w n A cap gs (h : Int) (m : Int) A' cap' hs).heap.size := by have := HWS.out; omega
 have h3 : Below w.heap.size w w3 := below_then HWB.out hws HB3.out
 have h8 : Below w.heap.size w (w3.alloc (.cells #[.int .u64 own] 47)) := h3.alloc h3.size _
 have h4 : Below w.heap.size w w4 := below_then h8 h8.size HB4.out
 refine bodyPost_ret (v := .tuple #[.agg #[.int .i64 ((a : Int) + (m : Int)), .slice A4 F.length c4], .int .i64 0]) (by simp [results, Tryz.results10, go_sem, p0, p1]) rfl ⟨_, rfl, S_put HZ.out (S_lower HS.out h8.size), ?_⟩
 exact below_set (below_set h4 (by omega)) (by omega)

/-- As a plain function (none where the arguments are not right). -/
def PutF (n : Int) (gs : List (List Int)) (h m : Int) (hs : List (List Int)) : Option (Int × List (List Int) × Int) :=
 if ValidF n gs ∧ ValidF m hs ∧ (0 ≤ h ∧ h ≤ n - 1) ∧ n - 1 + m ≤ 7 then some (n - 1 + m, famN ((n - 1).toNat + m.toNat) (putP gs (n - 1).toNat h.toNat hs), 0) else none
theorem PutF_calls (n : Int) (A : Option Addr) (cap : Nat) (gs : List (List Int)) (h m : Int) (A' : Option Addr) (cap' : Nat) (hs : List (List Int)) (r1 : Int) (r2 : List (List Int)) (r3 : Int) (w : World) (hC : dR.C w A gs.length gs) (hcap : gs.length ≤ cap) (hC' : dR.C w A' hs.length hs) (hcap' : hs.length ≤ cap') (hr : PutF n gs h m hs = some (r1, r2, r3)) :
  Calls Tryz.prog 10 #[.agg #[.int .i64 n, .slice A gs.length cap], .int .i64 h, .agg #[.int .i64 m, .slice A' hs.length cap']] w (FamRes w r1 r2 r3) := by
 unfold PutF at hr
 split at hr
 ·
  rename_i hh
  obtain ⟨hv, hv', hh1, hlim⟩ := hh
  obtain ⟨rfl, rfl, rfl⟩ : n - 1 + m = r1 ∧ famN ((n - 1).toNat + m.toNat) (putP gs (n - 1).toNat h.toNat hs) = r2 ∧ (0 : Int) = r3 := by simpa using hr
  have hn := hv.1
  have hm := hv'.1
  obtain ⟨a, ha⟩ : ∃ a : Nat, n = (a : Int) + 1 := ⟨(n - 1).toNat, by omega⟩
  obtain ⟨b, rfl⟩ : ∃ b : Nat, m = (b : Int) := ⟨m.toNat, by omega⟩
  obtain ⟨c, rfl⟩ : ∃ c : Nat, h = (c : Int) := ⟨h.toNat, by omega⟩
  subst ha
  have := put_yes a b (by omega) (by omega) (by omega) A A' cap cap' gs hs c (by omega) w hC hcap hC' hcap' hv hv'
  rw [show (a : Int) + 1 - 1 = (a : Int) by omega, Int.toNat_natCast, Int.toNat_natCast, Int.toNat_natCast]
  rwa [show ((a + b : Nat) : Int) = (a : Int) + (b : Int) by omega] at this
 ·
  cases hr

end Go.Proofs.YtgemfighmnnmeaaGreat.Put
