/- Contracts of ValidFamily, DualFamily, ThresholdFamily, WeightedFamily. -/
import Derived.Test.YtmeaffkgnmgmeaaFamOf
import Derived.Test.YtmeaffkgnmgmeaaValid
namespace Go.Proofs.Ytmeaffkgnmgmeaa.Ops
open Go.RowKit Go.Proofs.YtmeaffkgnmgmeaaW.PrintWords Go.Proofs.YtmeaffkgnmgmeaaW.PrintWords.Kd Go.Proofs.YtmeaffkgnmgmeaaW.PrintLast Go.Proofs.YtmeaffkgnmgmeaaW.PrintMore Go.Proofs.Ytmeaffkgnmgmeaa.G Go.Proofs.Ytmeaffkgnmgmeaa.Fam Go.Proofs.Ytmeaffkgnmgmeaa.Bits Go.Proofs.Ytmeaffkgnmgmeaa.Valid Go.Proofs.Ytmeaffkgnmgmeaa.Opens Go.Proofs.Ytmeaffkgnmgmeaa.Idx Go.Proofs.Ytmeaffkgnmgmeaa.Sorting Go.Proofs.Ytmeaffkgnmgmeaa.Crowds Go.Proofs.Ytmeaffkgnmgmeaa.FamOf
set_option linter.unusedVariables false
set_option linter.unusedSimpArgs false

theorem lens_of {w : World} {A : Option Addr} {n : Nat} {gs : List (List Int)} (h : dR.C w A n gs) : gs.length ≤ 9223372036854775807 ∧ ∀ g ∈ gs, g.length ≤ 9223372036854775807 := by
  refine ⟨by rw [h.1]; exact h.2.1, fun g hg => ?_⟩
  obtain ⟨i, hi, rfl⟩ := List.mem_iff_getElem.1 hg
  obtain ⟨ad, v, _, _, A', c', _, _, hC⟩ := elem_at (d := dR) rfl h i hi
  exact hC.2.1
theorem valid_calls (n : Int) (A : Option Addr) (cap : Nat) (gs : List (List Int)) (w : World) (hC : dR.C w A gs.length gs) (hcap : gs.length ≤ cap) :
    Calls Try.prog 64 #[.agg #[.int .i64 n, .slice A gs.length cap]] w fun e w' => e = .returned (.bool (decide (ValidF n gs))) ∧ Below w.heap.size w w' := by
  obtain ⟨k, hk⟩ := (valid_is n gs (lens_of hC).1 (lens_of hC).2).rounds
  exact impl_ValidFamily.calls k n A cap gs _ w hC hcap hk
theorem smalls_of {n : Int} {gs : List (List Int)} (h : ValidF n gs) : Smalls gs := fun g hg x hx => by
  have := (h.2.1 g hg).1 x hx
  have := h.1
  omega

/-! ### the dual -/
def dualP (n : Nat) (gs : List (List Int)) (c : Nat) : Bool := !openN gs (2 ^ n - 1 - c)
theorem rest_all : ∀ n : Fin 8, ∀ c : Fin 128, c.val < 2 ^ n.val → Go.bits .andNot .u64 ((2 ^ n.val - 1 : Nat) : Int) ((c.val : Nat) : Int) = ((2 ^ n.val - 1 - c.val : Nat) : Int) := by decide +kernel
theorem rest_is {n c : Nat} (hn : n ≤ 7) (hc : c < 2 ^ n) : Go.bits .andNot .u64 ((2 ^ n - 1 : Nat) : Int) (c : Int) = ((2 ^ n - 1 - c : Nat) : Int) := by
  have h7 : 2 ^ n ≤ 128 := by have := Nat.pow_le_pow_right (n := 2) (by omega) hn; simpa using this
  exact rest_all ⟨n, by omega⟩ ⟨c, by omega⟩ hc

/-- A family boxed in a block. -/
def FamBox (W : World) (g : Nat) (n : Int) (A : Option Addr) (cap : Nat) (gs : List (List Int)) : Prop :=
  W.cell? ⟨g, 0, none⟩ = some (.int .i64 n) ∧ W.cell? ⟨g, 1, none⟩ = some (.slice A gs.length cap) ∧ dR.C W A gs.length gs
theorem FamBox.later {W W' : World} {g : Nat} {n : Int} {A : Option Addr} {cap : Nat} {gs : List (List Int)} (h : FamBox W g n A cap gs) (hb : Below W.heap.size W W') : FamBox W' g n A cap gs :=
  ⟨pw_cell_below hb h.1, pw_cell_below hb h.2.1, C_below h.2.2 hb⟩
theorem FamBox.new (w : World) (n : Int) (A : Option Addr) (cap : Nat) (gs : List (List Int)) (t : TypeId) (hC : dR.C w A gs.length gs) : FamBox (w.alloc (.cells #[.int .i64 n, .slice A gs.length cap] t)) w.heap.size n A cap gs :=
  ⟨(blk_cell (blk_new w _) 0).trans rfl, (blk_cell (blk_new w _) 1).trans rfl, Kd.C_alloc hC _⟩

theorem blk_at {W : World} {o : Obj} {k : Nat} (hk : k = W.heap.size) : (W.alloc o).heap[k]? = some o := by subst hk; exact blk_new W o
/-- The result's variable, written. -/
theorem put0 {w1 : World} {r : Nat} {x y a b : Value} {t : TypeId} (hz : w1.heap[r]? = some (.cells #[x, y] t (0, 0))) : ((w1.setCell ⟨r, 0, none⟩ a).setCell ⟨r, 1, none⟩ b).cell? ⟨r, 0, none⟩ = some a :=
  (blk_cell (blk_set (blk_set hz 0 a) 1 b) 0).trans (by simp)
theorem put1 {w1 : World} {r : Nat} {x y a b : Value} {t : TypeId} (hz : w1.heap[r]? = some (.cells #[x, y] t (0, 0))) : ((w1.setCell ⟨r, 0, none⟩ a).setCell ⟨r, 1, none⟩ b).cell? ⟨r, 1, none⟩ = some b :=
  (blk_cell (blk_set (blk_set hz 0 a) 1 b) 1).trans (by simp)
theorem famTypes : ∀ q, q ∈ 30 :: dR.E → q ≠ 27 := by intro q hq; simp [dR, Kd.slice, Kd.int, Kd.scalar] at hq; omega
theorem S_put {w1 : World} {r base : Nat} {x y a b v : Value} {ok : Nat → Prop} {xs : List (List Int)} (hz : w1.heap[r]? = some (.cells #[x, y] 27 (0, 0))) (hs : Kd.S dR 30 w1 base ok v xs) : Kd.S dR 30 ((w1.setCell ⟨r, 0, none⟩ a).setCell ⟨r, 1, none⟩ b) base ok v xs :=
  S_set (S_set hs hz famTypes 0 a) (blk_set hz 0 a) famTypes 1 b

set_option maxHeartbeats 1000000 in
theorem dual1_calls (n : Nat) (hn : n ≤ 7) (A : Option Addr) (cap : Nat) (gs : List (List Int)) (hcap : gs.length ≤ cap) (hs : Smalls gs) (B1 B2 : Nat) (W : World) (h1 : FamBox W B1 (n : Int) A cap gs) (h2 : W.cell? ⟨B2, 0, none⟩ = some (.int .u64 ((2 ^ n - 1 : Nat) : Int))) (c : Nat) (hc : c < 2 ^ n) :
    Calls Try.prog 106 #[.int .u64 (c : Int), .pointer (some ⟨B1, 0, none⟩), .pointer (some ⟨B2, 0, none⟩)] W fun e w' => e = .returned (.bool (dualP n gs c)) ∧ Below W.heap.size W w' := by
  have h7 : 2 ^ n ≤ 128 := by have := Nat.pow_le_pow_right (n := 2) (by omega) hn; simpa using this
  have hr := rest_is hn hc
  have H := opens_calls (n : Int) A cap gs (2 ^ n - 1 - c) W h1.2.2 hcap hs (by omega)
  have c1 := h1.1
  have c2 := h1.2.1
  have hu := Try.underlying27
  clear h1 hc h7
  generalize hd : 2 ^ n - 1 - c = d at *
  have HD := Aside0.mk hd
  clear hd
  generalize ((2 ^ n - 1 : Nat) : Int) = m at *
  have HDP : Aside0 (dualP n gs c = !openN gs d) := ⟨by unfold dualP; rw [HD.out]⟩
  go_enter Try.func106, Try.ntmps106
  go_wp2_with (go_at_call 73; refine H.mono ?_; rintro e w' ⟨rfl, hb⟩)
  go_ret
  exact ⟨by rw [HDP.out]; rfl, hb⟩

set_option maxHeartbeats 2000000 in
theorem dual_calls (n : Nat) (hn : n ≤ 7) (A : Option Addr) (cap : Nat) (gs : List (List Int)) (w : World) (hC : dR.C w A gs.length gs) (hcap : gs.length ≤ cap) (hs : Smalls gs) :
    Calls Try.prog 65 #[.agg #[.int .i64 (n : Int), .slice A gs.length cap]] w fun e w' => ∃ v, e = .returned (.agg #[.int .i64 (n : Int), v]) ∧ Kd.S dR 30 w' w.heap.size (fun _ => True) v (famN n (dualP n gs)) ∧ Below w.heap.size w w' := by
  have eg : ∀ args w, (callFunc 106 args).run Try.prog w = .ok (.enter 106 args) w := enters_of Try.func106 (by kernel_rfl) rfl
  have hu := Try.underlying27
  have HC := Aside0.mk hC
  clear hC
  have HE := fun W => everybody_calls n hn W
  have HD : ∀ W B1 B2, FamBox W B1 (n : Int) A cap gs → W.cell? ⟨B2, 0, none⟩ = some (.int .u64 ((2 ^ n - 1 : Nat) : Int)) → PredN 106 #[] #[.pointer (some ⟨B1, 0, none⟩), .pointer (some ⟨B2, 0, none⟩)] (dualP n gs) (2 ^ n) W :=
    fun W B1 B2 h1 h2 W' c hb hc => dual1_calls n hn A cap gs hcap hs B1 B2 W' (h1.later hb) (pw_cell_below hb h2) c hc
  generalize ((2 ^ n - 1 : Nat) : Int) = m at *
  go_enter Try.func65, Try.ntmps65
  go_wp2_with (first | (go_at_call 70; refine (HE _).mono ?_; rintro e w' ⟨rfl, q, rfl⟩) | (go_at_call 57; refine (familyOf_calls n hn 106 #[] #[.pointer (some ⟨w.heap.size, 0, none⟩), .pointer (some ⟨w.heap.size + 1 + 1, 0, none⟩)] eg (dualP n gs) _ ?hp).mono ?_; (case hp => exact HD _ _ _ ((FamBox.new w _ A cap gs _ HC.out).later (below_alloc (pw_below_drewN (below_alloc (Below.refl _ _) _) _) _)) ((blk_cell (blk_at (by simp)) 0).trans rfl)); rintro e w1 ⟨v1, rfl, hs1, hb1⟩; have HZ := Aside0.mk (blk_below (blk_alloc (blk_drewN (blk_at (k := w.heap.size + 1) (by simp)) q) _) hb1); have z0 : w1.cell? ⟨w.heap.size + 1, 0, none⟩ = some (.int .i64 0) := (blk_cell HZ.out 0).trans rfl; have z1 : w1.cell? ⟨w.heap.size + 1, 1, none⟩ = some (.slice none 0 0) := (blk_cell HZ.out 1).trans rfl; have f0 := blk_frozen HZ.out 0; have f1 := blk_frozen HZ.out 1; obtain ⟨A1, c1, rfl⟩ := S_slice hs1; have HS := Aside0.mk hs1; have HB := Aside0.mk hb1; clear hs1 hb1))
  have p0 := fun a b => put0 (a := a) (b := b) HZ.out
  have p1 := fun a b => put1 (a := a) (b := b) HZ.out
  refine bodyPost_ret (v := .agg #[.int .i64 (n : Int), .slice A1 (famN n (dualP n gs)).length c1]) (by simp [results, Try.results65, go_sem, p0, p1]) rfl ⟨_, rfl, S_put HZ.out (S_lower HS.out (by simp; omega)), ?_⟩
  exact below_set (below_set (below_then (below_alloc (pw_below_drewN (below_alloc (below_alloc (Below.refl _ _) _) _) _) _) (by simp; omega) HB.out) (by omega)) (by omega)

/-- A family and a code, as they are handed back. -/
def FamRes (w : World) (n : Int) (gs : List (List Int)) (code : Int) (e : Ending) (w' : World) : Prop :=
  ∃ v, e = .returned (.tuple #[.agg #[.int .i64 n, v], .int .i64 code]) ∧ Kd.S dR 30 w' w.heap.size (fun _ => True) v gs ∧ Below w.heap.size w w'

set_option maxHeartbeats 2000000 in
theorem DualFamily_no (n : Int) (A : Option Addr) (cap : Nat) (gs : List (List Int)) (w : World) (hC : dR.C w A gs.length gs) (hcap : gs.length ≤ cap) (hv : ¬ ValidF n gs) :
    Calls Try.prog 19 #[.agg #[.int .i64 n, .slice A gs.length cap]] w (FamRes w 0 [] 1) := by
  have hu := Try.underlying27
  have HV := fun W h => valid_calls n A cap gs W h hcap
  rw [decide_eq_false hv] at HV
  have HC := Aside0.mk hC
  clear hC hv
  go_enter Try.func19, Try.ntmps19
  go_wp2_with (go_at_call 64; refine (HV _ (Kd.C_alloc (Kd.C_alloc HC.out _) _)).mono ?_; rintro e w1 ⟨rfl, hb1⟩; have HZ := Aside0.mk (blk_below (blk_at (k := w.heap.size + 1) (by simp)) hb1); have z0 : w1.cell? ⟨w.heap.size + 1, 0, none⟩ = some (.int .i64 0) := (blk_cell HZ.out 0).trans rfl; have z1 : w1.cell? ⟨w.heap.size + 1, 1, none⟩ = some (.slice none 0 0) := (blk_cell HZ.out 1).trans rfl; have f0 := blk_frozen HZ.out 0; have f1 := blk_frozen HZ.out 1; have HB := Aside0.mk hb1; clear hb1)
  have p0 := fun a b => put0 (a := a) (b := b) HZ.out
  have p1 := fun a b => put1 (a := a) (b := b) HZ.out
  refine bodyPost_ret (v := .tuple #[.agg #[.int .i64 0, .slice none 0 0], .int .i64 1]) (by simp [results, Try.results19, go_sem, p0, p1]) rfl ⟨_, rfl, S_nil _ _ _ _ _, ?_⟩
  exact below_set (below_set (below_then (below_alloc (below_alloc (Below.refl _ _) _) _) (by simp; omega) HB.out) (by omega)) (by omega)

set_option maxHeartbeats 2000000 in
theorem DualFamily_yes (n : Int) (A : Option Addr) (cap : Nat) (gs : List (List Int)) (w : World) (hC : dR.C w A gs.length gs) (hcap : gs.length ≤ cap) (hv : ValidF n gs) :
    Calls Try.prog 19 #[.agg #[.int .i64 n, .slice A gs.length cap]] w (FamRes w n (famN n.toNat (dualP n.toNat gs)) 0) := by
  have hu := Try.underlying27
  have HV := fun W h => valid_calls n A cap gs W h hcap
  rw [decide_eq_true hv] at HV
  have HC := Aside0.mk hC
  have h1 := hv.1
  have HD := fun W h => dual_calls n.toNat (by omega) A cap gs W h hcap (smalls_of hv)
  rw [show ((n.toNat : Nat) : Int) = n by omega] at HD
  clear hC hv h1
  go_enter Try.func19, Try.ntmps19
  go_wp2_with (first | (go_at_call 64; refine (HV _ (Kd.C_alloc (Kd.C_alloc HC.out _) _)).mono ?_; rintro e w1 ⟨rfl, hb1⟩; have HZ := Aside0.mk (blk_below (blk_at (k := w.heap.size + 1) (by simp)) hb1); have cf0 := pw_cell_below hb1 (pw_cell_below (below_alloc (Below.refl _ _) _) ((blk_cell (blk_at (W := w) (o := .cells #[.int .i64 n, .slice A gs.length cap] 27) rfl) 0).trans rfl)); have cf1 := pw_cell_below hb1 (pw_cell_below (below_alloc (Below.refl _ _) _) ((blk_cell (blk_at (W := w) (o := .cells #[.int .i64 n, .slice A gs.length cap] 27) rfl) 1).trans rfl)); have HB := Aside0.mk hb1; clear hb1) | (go_at_call 65; refine (HD _ ?hc).mono ?_; (case hc => exact C_below (Kd.C_alloc (Kd.C_alloc HC.out _) _) HB.out); rintro e w2 ⟨v2, rfl, hs2, hb2⟩; have HZ2 := Aside0.mk (blk_below HZ.out hb2); have z0 : w2.cell? ⟨w.heap.size + 1, 0, none⟩ = some (.int .i64 0) := (blk_cell HZ2.out 0).trans rfl; have z1 : w2.cell? ⟨w.heap.size + 1, 1, none⟩ = some (.slice none 0 0) := (blk_cell HZ2.out 1).trans rfl; have f0 := blk_frozen HZ2.out 0; have f1 := blk_frozen HZ2.out 1; obtain ⟨A2, c2, rfl⟩ := S_slice hs2; have HS := Aside0.mk hs2; have HB2 := Aside0.mk hb2; clear hs2 hb2))
  have p0 := fun a b => put0 (a := a) (b := b) HZ2.out
  have p1 := fun a b => put1 (a := a) (b := b) HZ2.out
  have hsz : w.heap.size ≤ w1.heap.size := by have := HB.out.size; simp at this; omega
  refine bodyPost_ret (v := .tuple #[.agg #[.int .i64 n, .slice A2 (famN n.toNat (dualP n.toNat gs)).length c2], .int .i64 0]) (by simp [results, Try.results19, go_sem, p0, p1]) rfl ⟨_, rfl, S_put HZ2.out (S_lower HS.out hsz), ?_⟩
  exact below_set (below_set (below_then (below_then (below_alloc (below_alloc (Below.refl _ _) _) _) (by simp; omega) HB.out) hsz HB2.out) (by omega)) (by omega)

def DualF (n : Int) (gs : List (List Int)) : Int × List (List Int) × Int := if ValidF n gs then (n, famN n.toNat (dualP n.toNat gs), 0) else (0, [], 1)
theorem DualF_calls (n : Int) (A : Option Addr) (cap : Nat) (gs : List (List Int)) (r1 : Int) (r2 : List (List Int)) (r3 : Int) (w : World) (hC : dR.C w A gs.length gs) (hcap : gs.length ≤ cap) (h : some (DualF n gs) = some (r1, r2, r3)) :
    Calls Try.prog 19 #[.agg #[.int .i64 n, .slice A gs.length cap]] w (FamRes w r1 r2 r3) := by
  have h' := Option.some.inj h
  unfold DualF at h'
  split at h'
  · rename_i hv
    obtain ⟨rfl, rfl, rfl⟩ : n = r1 ∧ famN n.toNat (dualP n.toNat gs) = r2 ∧ (0 : Int) = r3 := by simpa using h'
    exact DualFamily_yes n A cap gs w hC hcap hv
  · rename_i hv
    obtain ⟨rfl, rfl, rfl⟩ : (0 : Int) = r1 ∧ [] = r2 ∧ (1 : Int) = r3 := by simpa using h'
    exact DualFamily_no n A cap gs w hC hcap hv

end Go.Proofs.Ytmeaffkgnmgmeaa.Ops
