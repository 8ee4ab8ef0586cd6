/- Contracts of leaveOut, WithoutHolder and TrustHolder. -/
import Derived.Test.YtcgbogdkmliohaaCrowds
namespace Go.Proofs.Ytcgbogdkmliohaa.Leave
open Go.RowKit Go.Proofs.YtcgbogdkmliohaaW.PrintWords Go.Proofs.YtcgbogdkmliohaaW.PrintWords.Kd Go.Proofs.YtcgbogdkmliohaaW.PrintLast Go.Proofs.YtcgbogdkmliohaaW.PrintMore Go.Proofs.Ytcgbogdkmliohaa.G Go.Proofs.Ytcgbogdkmliohaa.Fam Go.Proofs.Ytcgbogdkmliohaa.Bits Go.Proofs.Ytcgbogdkmliohaa.Loops Go.Proofs.Ytcgbogdkmliohaa.Valid Go.Proofs.Ytcgbogdkmliohaa.Opens Go.Proofs.Ytcgbogdkmliohaa.Idx Go.Proofs.Ytcgbogdkmliohaa.Sorting Go.Proofs.Ytcgbogdkmliohaa.Crowds Go.Proofs.Ytcgbogdkmliohaa.FamOf Go.Proofs.Ytcgbogdkmliohaa.Ops
set_option linter.unusedVariables false
set_option linter.unusedSimpArgs false

/-- A set with room made for holder h. -/
def wideN (c h : Nat) : Nat := c % 2 ^ h + c / 2 ^ h * 2 ^ (h + 1)
theorem wide_all : ∀ c : Fin 64, ∀ h : Fin 7, impl_crowd_widened.f ((c.val : Nat) : Int) ((h.val : Nat) : Int) = some ((wideN c.val h.val : Nat) : Int) := by decide +kernel
theorem wide_lt_all : ∀ n : Fin 7, ∀ c : Fin 64, ∀ h : Fin 7, c.val < 2 ^ n.val → h.val ≤ n.val → wideN c.val h.val < 2 ^ (n.val + 1) ∧ wideN c.val h.val ||| 1 <<< h.val < 2 ^ (n.val + 1) := by decide +kernel
theorem wide_lt {n c h : Nat} (hn : n ≤ 6) (hc : c < 2 ^ n) (hh : h ≤ n) : wideN c h < 2 ^ (n + 1) ∧ wideN c h ||| 1 <<< h < 2 ^ (n + 1) := by
  have h6 : 2 ^ n ≤ 64 := by have := Nat.pow_le_pow_right (n := 2) (by omega) hn; simpa using this
  exact wide_lt_all ⟨n, by omega⟩ ⟨c, by omega⟩ ⟨h, by omega⟩ hc hh
theorem widened_calls (c h : Nat) (hc : c < 64) (hh : h < 7) (W : World) : Calls Try.prog 72 #[.int .u64 (c : Int), .int .i64 (h : Int)] W fun e w' => e = .returned (.int .u64 ((wideN c h : Nat) : Int)) ∧ ∃ q, w' = W.drewN q :=
  (impl_crowd_widened.calls (c : Int) (h : Int) _ W (wide_all ⟨c, hc⟩ ⟨h, hh⟩)).mono fun e w' ⟨he, hd⟩ => ⟨he, hd.out⟩

/-- Without h (t = 0), or with it trusted (t = 1). -/
def leaveP (gs : List (List Int)) (h t c : Nat) : Bool := openN gs (wideN c h ||| t <<< h)
theorem put_all : ∀ t : Fin 2, ∀ h : Fin 7, ∀ d : Fin 128, Go.bits .or .u64 ((d.val : Nat) : Int) (IntKind.u64.wrap (((t.val : Nat) : Int) * 2 ^ h.val)) = ((d.val ||| t.val <<< h.val : Nat) : Int) := by decide +kernel

theorem keep4 {w W : World} {a1 a2 a3 a4 : Addr} {v1 v2 v3 v4 : Value} (h1 : w.cell? a1 = some v1) (h2 : w.cell? a2 = some v2) (h3 : w.cell? a3 = some v3) (h4 : w.cell? a4 = some v4) (hb : Below w.heap.size w W) :
    W.cell? a1 = some v1 ∧ W.cell? a2 = some v2 ∧ W.cell? a3 = some v3 ∧ W.cell? a4 = some v4 ∧ Below w.heap.size w W := ⟨pw_cell_below hb h1, pw_cell_below hb h2, pw_cell_below hb h3, pw_cell_below hb h4, hb⟩

set_option maxHeartbeats 1000000 in
theorem leave1_calls (n : Int) (A : Option Addr) (cap : Nat) (gs : List (List Int)) (hcap : gs.length ≤ cap) (hs : Smalls gs) (B1 B2 B3 : Nat) (W : World) (h1 : FamBox W B1 n A cap gs) (h t : Nat) (hh : h < 7) (ht : t < 2)
    (h2 : W.cell? ⟨B2, 0, none⟩ = some (.int .i64 (h : Int))) (h3 : W.cell? ⟨B3, 0, none⟩ = some (.int .u64 (t : Int))) (c : Nat) (hc : c < 64) (hd : wideN c h ||| t <<< h < 128) (hw : wideN c h < 128) :
    Calls Try.prog 116 #[.int .u64 (c : Int), .pointer (some ⟨B1, 0, none⟩), .pointer (some ⟨B2, 0, none⟩), .pointer (some ⟨B3, 0, none⟩)] W fun e w' => e = .returned (.bool (leaveP gs h t c)) ∧ Below W.heap.size W w' := by
  have H1 := fun W => widened_calls c h hc hh W
  have H2 := fun W' hb => opens_calls n A cap gs (wideN c h ||| t <<< h) W' (C_below h1.2.2 hb) hcap hs hd
  have hp := put_all ⟨t, ht⟩ ⟨h, hh⟩ ⟨wideN c h, hw⟩
  simp only at hp
  have c1 := Aside0.mk h1.1
  have c2 := Aside0.mk h1.2.1
  have c3 := Aside0.mk h2
  have c4 := Aside0.mk h3
  have hu := Try.underlying26
  clear h1 h2 h3 hc hd hw ht
  have HDP : Aside0 (leaveP gs h t c = openN gs (wideN c h ||| t <<< h)) := ⟨rfl⟩
  generalize wideN c h ||| t <<< h = d at *
  generalize wideN c h = v at *
  have hh0 : (0 : Int) ≤ (h : Int) := Int.natCast_nonneg _
  go_enter Try.func116, Try.ntmps116
  go_wp2_with (fail)
  go_region_held3 (fun W' => W'.cell? ⟨B1, 0, none⟩ = some (.int .i64 n) ∧ W'.cell? ⟨B1, 1, none⟩ = some (.slice A gs.length cap) ∧ W'.cell? ⟨B2, 0, none⟩ = some (.int .i64 (h : Int)) ∧ W'.cell? ⟨B3, 0, none⟩ = some (.int .u64 (t : Int)) ∧ Below W.heap.size W W') ((refine keep4 c1.out c2.out c3.out c4.out ?_; repeat (first | assumption | exact Below.refl _ _ | apply below_drew | apply pw_below_drewN))) (first | (go_at_call 72; refine (H1 _).mono ?_; rintro e w' ⟨rfl, q, rfl⟩) | (go_at_call 73; refine (H2 _ (pw_below_drewN (Below.refl _ _) _)).mono ?_; rintro e w9 ⟨rfl, hb9⟩; have HB9 := below_then (pw_below_drewN (Below.refl W.heap.size W) _) (by simp) hb9))
  go_wp2_with (fail)
  go_ret
  exact ⟨by rw [HDP.out]; rfl, HB9⟩

/-- The boxes of leaveOut's parameters and its result's variable. -/
def leaveW (w : World) (n : Int) (A : Option Addr) (cap : Nat) (gs : List (List Int)) (h t : Int) : World :=
  (((w.alloc (.cells #[.int .i64 n, .slice A gs.length cap] 26)).alloc (.cells #[.int .i64 h] 2)).alloc (.cells #[.int .u64 t] 74)).alloc (.cells #[.int .i64 0, .slice none 0 0] 26)
theorem leaveW_size (w : World) (n : Int) (A : Option Addr) (cap : Nat) (gs : List (List Int)) (h t : Int) : (leaveW w n A cap gs h t).heap.size = w.heap.size + 1 + 1 + 1 + 1 := by simp [leaveW]
theorem leaveW_boxes (w : World) (n : Int) (A : Option Addr) (cap : Nat) (gs : List (List Int)) (h t : Int) (hC : dR.C w A gs.length gs) (W : World) (hb : Below (leaveW w n A cap gs h t).heap.size (leaveW w n A cap gs h t) W) :
    FamBox W w.heap.size n A cap gs ∧ W.cell? ⟨w.heap.size + 1, 0, none⟩ = some (.int .i64 h) ∧ W.cell? ⟨w.heap.size + 1 + 1, 0, none⟩ = some (.int .u64 t) ∧ W.heap[w.heap.size + 1 + 1 + 1]? = some (.cells #[.int .i64 0, .slice none 0 0] 26 (0, 0)) := by
  refine ⟨((FamBox.new w n A cap gs 26 hC).later (by unfold leaveW at *; exact below_alloc (below_alloc (below_alloc (Below.refl _ _) _) _) _)).later hb, ?_, ?_, ?_⟩
  · exact pw_cell_below hb ((blk_cell (blk_alloc (blk_alloc (blk_at (by simp)) _) _) 0).trans rfl)
  · exact pw_cell_below hb ((blk_cell (blk_alloc (blk_at (by simp)) _) 0).trans rfl)
  · exact blk_below (blk_at (by simp)) hb
theorem leaveW_below (w : World) (n : Int) (A : Option Addr) (cap : Nat) (gs : List (List Int)) (h t : Int) : Below w.heap.size w (leaveW w n A cap gs h t) := below_alloc (below_alloc (below_alloc (below_alloc (Below.refl _ _) _) _) _) _

set_option maxHeartbeats 2000000 in
set_option maxRecDepth 100000 in
theorem leave_bad (n : Int) (A : Option Addr) (cap : Nat) (gs : List (List Int)) (h t : Int) (w : World) (hC : dR.C w A gs.length gs) (hcap : gs.length ≤ cap) (hv : ¬ ValidF n gs) :
    Calls Try.prog 62 #[.agg #[.int .i64 n, .slice A gs.length cap], .int .i64 h, .int .u64 t] w (FamRes w 0 [] 1) := by
  have hu := Try.underlying26
  have HV := fun W h => valid_calls n A cap gs W h hcap
  rw [decide_eq_false hv] at HV
  have HBX := Aside0.mk (leaveW_boxes w n A cap gs h t hC)
  have HWB := Aside0.mk (leaveW_below w n A cap gs h t)
  have HWS := Aside0.mk (leaveW_size w n A cap gs h t)
  have HC := Aside0.mk (C_below hC HWB.out)
  clear hC hv
  go_enter Try.func62, Try.ntmps62
  go_wp2_with (fail)
  rw [show (((w.alloc (.cells #[.int .i64 n, .slice A gs.length cap] 26)).alloc (.cells #[.int .i64 h] 2)).alloc (.cells #[.int .u64 t] 74)).alloc (.cells #[.int .i64 0, .slice none 0 0] 26) = leaveW w n A cap gs h t from rfl]
  go_wp2_with (first | (go_at_call 67; refine (HV _ HC.out).mono ?_; rintro e w1 ⟨rfl, hb1⟩; have HX := Aside0.mk (HBX.out w1 hb1); have cf0 := HX.out.1.1; have cf1 := HX.out.1.2.1; have cf2 := HX.out.2.1; have z0 : w1.cell? ⟨w.heap.size + 1 + 1 + 1, 0, none⟩ = some (.int .i64 0) := (blk_cell HX.out.2.2.2 0).trans rfl; have z1 : w1.cell? ⟨w.heap.size + 1 + 1 + 1, 1, none⟩ = some (.slice none 0 0) := (blk_cell HX.out.2.2.2 1).trans rfl; have f0 := blk_frozen HX.out.2.2.2 0; have f1 := blk_frozen HX.out.2.2.2 1; have HB := Aside0.mk hb1; clear hb1))
  have HZ := Aside0.mk HX.out.2.2.2
  have p0 := fun a b => put0 (a := a) (b := b) HZ.out
  have p1 := fun a b => put1 (a := a) (b := b) HZ.out
  have h1 : Below w.heap.size w w1 := below_then HWB.out (by have := HWS.out; omega) HB.out
  refine bodyPost_ret (v := .tuple #[.agg #[.int .i64 0, .slice none 0 0], .int .i64 1]) (by simp [results, Try.results62, go_sem, p0, p1]) rfl ⟨_, rfl, S_nil _ _ _ _ _, ?_⟩
  exact below_set (below_set h1 (by omega)) (by omega)

set_option maxHeartbeats 2000000 in
set_option maxRecDepth 100000 in
theorem leave_far (n : Int) (A : Option Addr) (cap : Nat) (gs : List (List Int)) (h t : Int) (w : World) (hC : dR.C w A gs.length gs) (hcap : gs.length ≤ cap) (hv : ValidF n gs) (hh : ¬ (0 ≤ h ∧ h ≤ n - 1)) :
    Calls Try.prog 62 #[.agg #[.int .i64 n, .slice A gs.length cap], .int .i64 h, .int .u64 t] w (FamRes w 0 [] 2) := by
  have hu := Try.underlying26
  have HV := fun W h => valid_calls n A cap gs W h hcap
  rw [decide_eq_true hv] at HV
  have HW := fun W => within_calls h 0 (n - 1) W
  rw [decide_eq_false hh] at HW
  have hn7 := hv.1
  have hi : IntKind.i64.wrap (n - 1) = n - 1 := IntWalk.i64_in _ (by omega)
  have HBX := Aside0.mk (leaveW_boxes w n A cap gs h t hC)
  have HWB := Aside0.mk (leaveW_below w n A cap gs h t)
  have HWS := Aside0.mk (leaveW_size w n A cap gs h t)
  have HC := Aside0.mk (C_below hC HWB.out)
  clear hC hv hh
  go_enter Try.func62, Try.ntmps62
  go_wp2_with (fail)
  rw [show (((w.alloc (.cells #[.int .i64 n, .slice A gs.length cap] 26)).alloc (.cells #[.int .i64 h] 2)).alloc (.cells #[.int .u64 t] 74)).alloc (.cells #[.int .i64 0, .slice none 0 0] 26) = leaveW w n A cap gs h t from rfl]
  go_wp2_with (first | (go_at_call 67; refine (HV _ HC.out).mono ?_; rintro e w1 ⟨rfl, hb1⟩; have HX := Aside0.mk (HBX.out w1 hb1); have cf0 := HX.out.1.1; have cf1 := HX.out.1.2.1; have cf2 := HX.out.2.1; have z0 : w1.cell? ⟨w.heap.size + 1 + 1 + 1, 0, none⟩ = some (.int .i64 0) := (blk_cell HX.out.2.2.2 0).trans rfl; have z1 : w1.cell? ⟨w.heap.size + 1 + 1 + 1, 1, none⟩ = some (.slice none 0 0) := (blk_cell HX.out.2.2.2 1).trans rfl; have f0 := blk_frozen HX.out.2.2.2 0; have f1 := blk_frozen HX.out.2.2.2 1; have HB := Aside0.mk hb1; clear hb1) | (go_at_call 68; refine (HW _).mono ?_; rintro e w' ⟨rfl, q, rfl⟩; clear z0 z1 f0 f1; have HZ := Aside0.mk (blk_drewN HX.out.2.2.2 q); have z0 : (w1.drewN q).cell? ⟨w.heap.size + 1 + 1 + 1, 0, none⟩ = some (.int .i64 0) := (blk_cell HZ.out 0).trans rfl; have z1 : (w1.drewN q).cell? ⟨w.heap.size + 1 + 1 + 1, 1, none⟩ = some (.slice none 0 0) := (blk_cell HZ.out 1).trans rfl; have f0 := blk_frozen HZ.out 0; have f1 := blk_frozen HZ.out 1))
  have p0 := fun a b => put0 (a := a) (b := b) HZ.out
  have p1 := fun a b => put1 (a := a) (b := b) HZ.out
  have h1 : Below w.heap.size w w1 := below_then HWB.out (by have := HWS.out; omega) HB.out
  refine bodyPost_ret (v := .tuple #[.agg #[.int .i64 0, .slice none 0 0], .int .i64 2]) (by simp [results, Try.results62, go_sem, p0, p1]) rfl ⟨_, rfl, S_nil _ _ _ _ _, ?_⟩
  exact below_set (below_set (pw_below_drewN h1 _) (by omega)) (by omega)

set_option maxHeartbeats 2000000 in
set_option maxRecDepth 100000 in
theorem leave_one (n : Int) (A : Option Addr) (cap : Nat) (gs : List (List Int)) (h t : Int) (w : World) (hC : dR.C w A gs.length gs) (hcap : gs.length ≤ cap) (hv : ValidF n gs) (hh : 0 ≤ h ∧ h ≤ n - 1) (h1 : n = 1) :
    Calls Try.prog 62 #[.agg #[.int .i64 n, .slice A gs.length cap], .int .i64 h, .int .u64 t] w (FamRes w 0 [] 4) := by
  have hu := Try.underlying26
  have HV := fun W h => valid_calls n A cap gs W h hcap
  subst h1
  rw [decide_eq_true hv] at HV
  have HW := fun W => within_calls h 0 0 W
  rw [decide_eq_true (show 0 ≤ h ∧ h ≤ 0 by omega)] at HW
  have HBX := Aside0.mk (leaveW_boxes w 1 A cap gs h t hC)
  have HWB := Aside0.mk (leaveW_below w 1 A cap gs h t)
  have HWS := Aside0.mk (leaveW_size w 1 A cap gs h t)
  have HC := Aside0.mk (C_below hC HWB.out)
  clear hC hv hh
  go_enter Try.func62, Try.ntmps62
  go_wp2_with (fail)
  rw [show (((w.alloc (.cells #[.int .i64 1, .slice A gs.length cap] 26)).alloc (.cells #[.int .i64 h] 2)).alloc (.cells #[.int .u64 t] 74)).alloc (.cells #[.int .i64 0, .slice none 0 0] 26) = leaveW w 1 A cap gs h t from rfl]
  go_wp2_with (first | (go_at_call 67; refine (HV _ HC.out).mono ?_; rintro e w1 ⟨rfl, hb1⟩; have HX := Aside0.mk (HBX.out w1 hb1); have cf0 := HX.out.1.1; have cf1 := HX.out.1.2.1; have cf2 := HX.out.2.1; have z0 : w1.cell? ⟨w.heap.size + 1 + 1 + 1, 0, none⟩ = some (.int .i64 0) := (blk_cell HX.out.2.2.2 0).trans rfl; have z1 : w1.cell? ⟨w.heap.size + 1 + 1 + 1, 1, none⟩ = some (.slice none 0 0) := (blk_cell HX.out.2.2.2 1).trans rfl; have f0 := blk_frozen HX.out.2.2.2 0; have f1 := blk_frozen HX.out.2.2.2 1; have HB := Aside0.mk hb1; clear hb1) | (go_at_call 68; refine (HW _).mono ?_; rintro e w' ⟨rfl, q, rfl⟩; clear z0 z1 f0 f1; have HZ := Aside0.mk (blk_drewN HX.out.2.2.2 q); have z0 : (w1.drewN q).cell? ⟨w.heap.size + 1 + 1 + 1, 0, none⟩ = some (.int .i64 0) := (blk_cell HZ.out 0).trans rfl; have z1 : (w1.drewN q).cell? ⟨w.heap.size + 1 + 1 + 1, 1, none⟩ = some (.slice none 0 0) := (blk_cell HZ.out 1).trans rfl; have f0 := blk_frozen HZ.out 0; have f1 := blk_frozen HZ.out 1))
  have p0 := fun a b => put0 (a := a) (b := b) HZ.out
  have p1 := fun a b => put1 (a := a) (b := b) HZ.out
  have h1 : Below w.heap.size w w1 := below_then HWB.out (by have := HWS.out; omega) HB.out
  refine bodyPost_ret (v := .tuple #[.agg #[.int .i64 0, .slice none 0 0], .int .i64 4]) (by simp [results, Try.results62, go_sem, p0, p1]) rfl ⟨_, rfl, S_nil _ _ _ _ _, ?_⟩
  exact below_set (below_set (pw_below_drewN h1 _) (by omega)) (by omega)

set_option maxHeartbeats 2000000 in
set_option maxRecDepth 100000 in
theorem leave_yes (n : Int) (A : Option Addr) (cap : Nat) (gs : List (List Int)) (h t : Int) (w : World) (hC : dR.C w A gs.length gs) (hcap : gs.length ≤ cap) (m : Nat) (hm1 : 1 ≤ m) (hm : m ≤ 6) (hn : n = (m : Int) + 1) (hv : ValidF n gs) (a : Nat) (ha : h = (a : Int)) (ham : a ≤ m) (b : Nat) (hb : t = (b : Int)) (hb2 : b < 2) :
    Calls Try.prog 62 #[.agg #[.int .i64 n, .slice A gs.length cap], .int .i64 h, .int .u64 t] w (FamRes w (m : Int) (famN m (leaveP gs a b)) 0) := by
  have hu := Try.underlying26
  have HV := fun W h => valid_calls n A cap gs W h hcap
  subst hn ha hb
  have eg : ∀ args w, (callFunc 116 args).run Try.prog w = .ok (.enter 116 args) w := enters_of Try.func116 (by kernel_rfl) rfl
  rw [decide_eq_true hv] at HV
  have HW := fun W => within_calls (a : Int) 0 (m : Int) W
  rw [decide_eq_true (show 0 ≤ (a : Int) ∧ (a : Int) ≤ (m : Int) by omega)] at HW
  have hne : ¬ ((m : Int) + 1 = 1) := by omega
  have h6 : 2 ^ m ≤ 64 := by have := Nat.pow_le_pow_right (n := 2) (by omega) hm; simpa using this
  have h7 : 2 ^ (m + 1) ≤ 128 := by rw [Nat.pow_succ]; omega
  have HF := fun W (hx : FamBox W w.heap.size ((m : Int) + 1) A cap gs ∧ W.cell? ⟨w.heap.size + 1, 0, none⟩ = some (.int .i64 (a : Int)) ∧ W.cell? ⟨w.heap.size + 1 + 1, 0, none⟩ = some (.int .u64 (b : Int))) => familyOf_calls m (by omega) 116 #[] #[.pointer (some ⟨w.heap.size, 0, none⟩), .pointer (some ⟨w.heap.size + 1, 0, none⟩), .pointer (some ⟨w.heap.size + 1 + 1, 0, none⟩)] eg (leaveP gs a b) W
    (fun W' c hbw hc => by
      have hl := wide_lt hm hc ham
      refine leave1_calls _ A cap gs hcap (smalls_of hv) _ _ _ W' (hx.1.later hbw) a b (by omega) hb2 (pw_cell_below hbw hx.2.1) (pw_cell_below hbw hx.2.2) c (by omega) ?_ (by omega)
      have : b = 0 ∨ b = 1 := by omega
      rcases this with rfl | rfl
      · simpa using Nat.lt_of_lt_of_le hl.1 h7
      · exact Nat.lt_of_lt_of_le hl.2 h7)
  generalize hFF : famN m (leaveP gs a b) = F at *
  have HFF := Aside0.mk hFF
  have HNE := Aside0.mk hne
  have hdc : decide ((m : Int) + 1 = 1) = false := decide_eq_false hne
  clear hFF hne h6 h7
  have HBX := Aside0.mk (leaveW_boxes w ((m : Int) + 1) A cap gs (a : Int) (b : Int) hC)
  have HWB := Aside0.mk (leaveW_below w ((m : Int) + 1) A cap gs (a : Int) (b : Int))
  have HWS := Aside0.mk (leaveW_size w ((m : Int) + 1) A cap gs (a : Int) (b : Int))
  have HC := Aside0.mk (C_below hC HWB.out)
  clear hC hv
  go_enter Try.func62, Try.ntmps62
  go_wp2_with (fail)
  rw [show (((w.alloc (.cells #[.int .i64 ((m : Int) + 1), .slice A gs.length cap] 26)).alloc (.cells #[.int .i64 (a : Int)] 2)).alloc (.cells #[.int .u64 (b : Int)] 74)).alloc (.cells #[.int .i64 0, .slice none 0 0] 26) = leaveW w ((m : Int) + 1) A cap gs (a : Int) (b : Int) from rfl]
  go_wp2_with (first | (go_at_call 67; refine (HV _ HC.out).mono ?_; rintro e w1 ⟨rfl, hb1⟩; have HX := Aside0.mk (HBX.out w1 hb1); have cf0 := HX.out.1.1; have cf1 := HX.out.1.2.1; have cf2 := HX.out.2.1; have z0 : w1.cell? ⟨w.heap.size + 1 + 1 + 1, 0, none⟩ = some (.int .i64 0) := (blk_cell HX.out.2.2.2 0).trans rfl; have z1 : w1.cell? ⟨w.heap.size + 1 + 1 + 1, 1, none⟩ = some (.slice none 0 0) := (blk_cell HX.out.2.2.2 1).trans rfl; have f0 := blk_frozen HX.out.2.2.2 0; have f1 := blk_frozen HX.out.2.2.2 1; have HB := Aside0.mk hb1; clear hb1) | (go_at_call 68; refine (HW _).mono ?_; rintro e w' ⟨rfl, q, rfl⟩; clear z0 z1 f0 f1; have HZ := Aside0.mk (blk_drewN HX.out.2.2.2 q); have z0 : (w1.drewN q).cell? ⟨w.heap.size + 1 + 1 + 1, 0, none⟩ = some (.int .i64 0) := (blk_cell HZ.out 0).trans rfl; have z1 : (w1.drewN q).cell? ⟨w.heap.size + 1 + 1 + 1, 1, none⟩ = some (.slice none 0 0) := (blk_cell HZ.out 1).trans rfl; have f0 := blk_frozen HZ.out 0; have f1 := blk_frozen HZ.out 1; have HXX := Aside0.mk (HBX.out (w1.drewN q) (pw_below_drewN HB.out q))) | (go_at_call 70; refine (HF _ ⟨HXX.out.1, HXX.out.2.1, HXX.out.2.2.1⟩).mono ?_; clear z0 z1 f0 f1; rintro e w2 ⟨v2, rfl, hs2, hb2⟩; have HZ2 := Aside0.mk (blk_below HXX.out.2.2.2 hb2); have z0 : w2.cell? ⟨w.heap.size + 1 + 1 + 1, 0, none⟩ = some (.int .i64 0) := (blk_cell HZ2.out 0).trans rfl; have z1 : w2.cell? ⟨w.heap.size + 1 + 1 + 1, 1, none⟩ = some (.slice none 0 0) := (blk_cell HZ2.out 1).trans rfl; have f0 := blk_frozen HZ2.out 0; have f1 := blk_frozen HZ2.out 1; obtain ⟨A2, c2, rfl⟩ := S_slice hs2; have HS := Aside0.mk hs2; have HB2 := Aside0.mk hb2; clear hs2 hb2))
  have p0 := fun a b => put0 (a := a) (b := b) HZ2.out
  have p1 := fun a b => put1 (a := a) (b := b) HZ2.out
  have h1 : Below w.heap.size w w1 := below_then HWB.out (by have := HWS.out; omega) HB.out
  have h2 : Below w.heap.size w w2 := below_then (pw_below_drewN h1 _) (pw_below_drewN h1 _).size HB2.out
  refine bodyPost_ret (v := .tuple #[.agg #[.int .i64 (m : Int), .slice A2 F.length c2], .int .i64 0]) (by simp [results, Try.results62, go_sem, p0, p1]) rfl ⟨_, rfl, S_put HZ2.out (S_lower HS.out (pw_below_drewN h1 _).size), ?_⟩
  exact below_set (below_set h2 (by omega)) (by omega)

def LeaveF (n : Int) (gs : List (List Int)) (h : Int) (t : Nat) : Int × List (List Int) × Int :=
  if ValidF n gs then (if 0 ≤ h ∧ h ≤ n - 1 then (if n = 1 then (0, [], 4) else (n - 1, famN (n - 1).toNat (leaveP gs h.toNat t), 0)) else (0, [], 2)) else (0, [], 1)
theorem leave_calls (n : Int) (A : Option Addr) (cap : Nat) (gs : List (List Int)) (h : Int) (t : Nat) (ht : t < 2) (w : World) (hC : dR.C w A gs.length gs) (hcap : gs.length ≤ cap) :
    Calls Try.prog 62 #[.agg #[.int .i64 n, .slice A gs.length cap], .int .i64 h, .int .u64 (t : Int)] w (FamRes w (LeaveF n gs h t).1 (LeaveF n gs h t).2.1 (LeaveF n gs h t).2.2) := by
  unfold LeaveF
  by_cases hv : ValidF n gs
  · rw [if_pos hv]
    by_cases hh : 0 ≤ h ∧ h ≤ n - 1
    · rw [if_pos hh]
      by_cases h1 : n = 1
      · rw [if_pos h1]
        exact leave_one n A cap gs h (t : Int) w hC hcap hv hh h1
      · rw [if_neg h1]
        have hr := hv.1
        have := leave_yes n A cap gs h (t : Int) w hC hcap (n - 1).toNat (by omega) (by omega) (by omega) hv h.toNat (by omega) (by omega) t rfl ht
        rwa [show (((n - 1).toNat : Nat) : Int) = n - 1 by omega] at this
    · rw [if_neg hh]
      exact leave_far n A cap gs h (t : Int) w hC hcap hv hh
  · rw [if_neg hv]
    exact leave_bad n A cap gs h (t : Int) w hC hcap hv

set_option maxHeartbeats 2000000 in
set_option maxRecDepth 100000 in
theorem WithoutHolderF_calls (n : Int) (A : Option Addr) (cap : Nat) (gs : List (List Int)) (h : Int) (r1 : Int) (r2 : List (List Int)) (r3 : Int) (w : World) (hC : dR.C w A gs.length gs) (hcap : gs.length ≤ cap) (hr : some (LeaveF n gs h 0) = some (r1, r2, r3)) :
    Calls Try.prog 21 #[.agg #[.int .i64 n, .slice A gs.length cap], .int .i64 h] w (FamRes w r1 r2 r3) := by
  have hu := Try.underlying26
  have HL := fun W h' => leave_calls n A cap gs h 0 (by omega) W h' hcap
  rw [Option.some.inj hr] at HL
  have HC := Aside0.mk hC
  clear hC hr
  go_enter Try.func21, Try.ntmps21
  go_wp2_with (go_at_call 62; refine (HL _ (Kd.C_alloc (Kd.C_alloc HC.out _) _)).mono ?_; rintro e w1 ⟨v1, rfl, hs1, hb1⟩; have HZ := Aside0.mk (blk_below (blk_at (k := w.heap.size + 1) (by simp)) hb1); have z0 : w1.cell? ⟨w.heap.size + 1, 0, none⟩ = some (.int .i64 0) := (blk_cell HZ.out 0).trans rfl; have z1 : w1.cell? ⟨w.heap.size + 1, 1, none⟩ = some (.slice none 0 0) := (blk_cell HZ.out 1).trans rfl; have f0 := blk_frozen HZ.out 0; have f1 := blk_frozen HZ.out 1; obtain ⟨A1, c1, rfl⟩ := S_slice hs1; have HS := Aside0.mk hs1; have HB := Aside0.mk hb1; clear hs1 hb1)
  have p0 := fun a b => put0 (a := a) (b := b) HZ.out
  have p1 := fun a b => put1 (a := a) (b := b) HZ.out
  have h1 : Below w.heap.size w w1 := below_then (below_alloc (below_alloc (Below.refl _ _) _) _) (by simp; omega) HB.out
  refine bodyPost_ret (v := .tuple #[.agg #[.int .i64 r1, .slice A1 r2.length c1], .int .i64 r3]) (by simp [results, Try.results21, go_sem, p0, p1]) rfl ⟨_, rfl, S_put HZ.out (S_lower HS.out (by simp; omega)), ?_⟩
  exact below_set (below_set h1 (by omega)) (by omega)

set_option maxHeartbeats 2000000 in
set_option maxRecDepth 100000 in
theorem TrustHolderF_calls (n : Int) (A : Option Addr) (cap : Nat) (gs : List (List Int)) (h : Int) (r1 : Int) (r2 : List (List Int)) (r3 : Int) (w : World) (hC : dR.C w A gs.length gs) (hcap : gs.length ≤ cap) (hr : some (LeaveF n gs h 1) = some (r1, r2, r3)) :
    Calls Try.prog 16 #[.agg #[.int .i64 n, .slice A gs.length cap], .int .i64 h] w (FamRes w r1 r2 r3) := by
  have hu := Try.underlying26
  have HL := fun W h' => leave_calls n A cap gs h 1 (by omega) W h' hcap
  rw [Option.some.inj hr] at HL
  have HC := Aside0.mk hC
  clear hC hr
  go_enter Try.func16, Try.ntmps16
  go_wp2_with (go_at_call 62; refine (HL _ (Kd.C_alloc (Kd.C_alloc HC.out _) _)).mono ?_; rintro e w1 ⟨v1, rfl, hs1, hb1⟩; have HZ := Aside0.mk (blk_below (blk_at (k := w.heap.size + 1) (by simp)) hb1); have z0 : w1.cell? ⟨w.heap.size + 1, 0, none⟩ = some (.int .i64 0) := (blk_cell HZ.out 0).trans rfl; have z1 : w1.cell? ⟨w.heap.size + 1, 1, none⟩ = some (.slice none 0 0) := (blk_cell HZ.out 1).trans rfl; have f0 := blk_frozen HZ.out 0; have f1 := blk_frozen HZ.out 1; obtain ⟨A1, c1, rfl⟩ := S_slice hs1; have HS := Aside0.mk hs1; have HB := Aside0.mk hb1; clear hs1 hb1)
  have p0 := fun a b => put0 (a := a) (b := b) HZ.out
  have p1 := fun a b => put1 (a := a) (b := b) HZ.out
  have h1 : Below w.heap.size w w1 := below_then (below_alloc (below_alloc (Below.refl _ _) _) _) (by simp; omega) HB.out
  refine bodyPost_ret (v := .tuple #[.agg #[.int .i64 r1, .slice A1 r2.length c1], .int .i64 r3]) (by simp [results, Try.results16, go_sem, p0, p1]) rfl ⟨_, rfl, S_put HZ.out (S_lower HS.out (by simp; omega)), ?_⟩
  exact below_set (below_set h1 (by omega)) (by omega)

end Go.Proofs.Ytcgbogdkmliohaa.Leave
