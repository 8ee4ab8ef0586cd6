/- Contracts of ThresholdFamily and WeightedFamily, at right arguments. -/
import Derived.Test.YtgemfighmnnmeaaIdx2
import Derived.Test.YtgemfighmnnmeaaCrowds
namespace Go.Proofs.Ytgemfighmnnmeaa.Ops2
open Go.RowKit Go.Proofs.YtgemfighmnnmeaaW.PrintWords Go.Proofs.YtgemfighmnnmeaaW.PrintWords.Kd Go.Proofs.YtgemfighmnnmeaaW.PrintLast Go.Proofs.YtgemfighmnnmeaaW.PrintMore Go.Proofs.Ytgemfighmnnmeaa.G Go.Proofs.Ytgemfighmnnmeaa.Fam Go.Proofs.Ytgemfighmnnmeaa.Bits Go.Proofs.Ytgemfighmnnmeaa.Loops Go.Proofs.Ytgemfighmnnmeaa.Valid Go.Proofs.Ytgemfighmnnmeaa.Opens Go.Proofs.Ytgemfighmnnmeaa.Idx Go.Proofs.Ytgemfighmnnmeaa.Sorting Go.Proofs.Ytgemfighmnnmeaa.Crowds Go.Proofs.Ytgemfighmnnmeaa.FamOf Go.Proofs.Ytgemfighmnnmeaa.Ops
set_option linter.unusedVariables false
set_option linter.unusedSimpArgs false

/-! ### weights -/
def wsum (ws : List Int) (g : List Int) : Int := g.foldl (fun s h => s + ws.getD h.toNat 0) 0
def weighP (ws : List Int) (q : Int) (c : Nat) : Bool := decide (wsum ws (groupN c) ≥ q)
theorem wsum_snoc (ws g : List Int) (h : Int) : wsum ws (g ++ [h]) = wsum ws g + ws.getD h.toNat 0 := by simp [wsum]
theorem wsum_bound (ws : List Int) (hw : ∀ x ∈ ws, 0 ≤ x ∧ x ≤ 1000) (g : List Int) : 0 ≤ wsum ws g ∧ wsum ws g ≤ 1000 * g.length := by
  have key : ∀ h : Int, 0 ≤ ws.getD h.toNat 0 ∧ ws.getD h.toNat 0 ≤ 1000 := by
    intro h
    rw [List.getD_eq_getElem?_getD]
    by_cases hl : h.toNat < ws.length
    · rw [List.getElem?_eq_getElem hl]
      have := hw _ (List.getElem_mem hl)
      simpa using this
    · rw [List.getElem?_eq_none (by omega)]; simp
  unfold wsum
  have gen : ∀ (g : List Int) (s : Int), s ≤ g.foldl (fun s h => s + ws.getD h.toNat 0) s ∧ g.foldl (fun s h => s + ws.getD h.toNat 0) s ≤ s + 1000 * g.length := by
    intro g
    induction g with
    | nil => intro s; simp
    | cons a g ih =>
      intro s
      have h1 := ih (s + ws.getD a.toNat 0)
      have h2 := key a
      rw [List.foldl_cons, List.length_cons]
      omega
  have := gen g 0
  omega

set_option maxHeartbeats 1000000 in
theorem weigh1_calls (x : Int) (W : World) (hx : 0 ≤ x ∧ x ≤ 1000) : Calls Try.prog 18 #[.int .i64 x] W fun e w' => e = .returned (.bool false) ∧ Below W.heap.size W w' := by
  have HW := fun W => within_calls x 0 1000 W
  rw [decide_eq_true hx] at HW
  clear hx
  go_enter Try.func18, Try.ntmps18
  go_wp2_with (go_at_call 16; refine (HW _).mono ?_; rintro e w' ⟨rfl, q, rfl⟩)
  go_ret
  exact ⟨rfl, by repeat (first | exact Below.refl _ _ | apply pw_below_drewN)⟩

set_option maxHeartbeats 2000000 in
theorem weigh2_calls (ws : List Int) (q : Int) (A : Option Addr) (cap : Nat) (n : Nat) (hn : n ≤ 7) (hl : ws.length = n) (hw : ∀ x ∈ ws, 0 ≤ x ∧ x ≤ 1000) (B1 B2 : Nat) (W : World)
    (h1 : W.cell? ⟨B1, 0, none⟩ = some (.slice A n cap)) (h2 : W.cell? ⟨B2, 0, none⟩ = some (.int .i64 q)) (hC : Kd.C (Kd.int .i64) W A n ws) (c : Nat) (hc : c < 2 ^ n) :
    Calls Try.prog 20 #[.int .u64 (c : Int), .pointer (some ⟨B1, 0, none⟩), .pointer (some ⟨B2, 0, none⟩)] W fun e w' => e = .returned (.bool (weighP ws q c)) ∧ Below W.heap.size W w' := by
  have h7 : 2 ^ n ≤ 128 := by have := Nat.pow_le_pow_right (n := 2) (by omega) hn; simpa using this
  have HG := fun W => group_calls c (by omega) W
  have hin := (groupN_is hn hc).1
  have hgl : (groupN c).length ≤ 7 := by
    unfold groupN
    rw [List.length_map]
    have := List.length_filter_le c.testBit (List.range 7)
    simpa using this
  unfold weighP
  generalize groupN c = L at *
  have HIN := Aside0.mk hin
  have HW := Aside0.mk (wsum_bound ws hw)
  have HC := Aside0.mk hC
  have HL := Aside0.mk hl
  have H1 := Aside0.mk h1
  have H2 := Aside0.mk h2
  clear hin hw hC hl h1 h2 h7 hc
  go_enter Try.func20, Try.ntmps20
  go_wp2_with (go_at_call 21; refine (HG _).mono ?_; rintro e w1 ⟨v1, rfl, hr1, hb1⟩; obtain ⟨A1, c1, rfl, hlc, hC1⟩ := R_reads hr1; have HC1 := Aside0.mk hC1; have HB1 := Aside0.mk hb1; clear hr1 hb1 hC1)
  have g1 := pw_cell_below HB1.out H1.out
  have g2 := pw_cell_below HB1.out H2.out
  go_loop [5, 7, 11] (fun v5 _ v11 => ∃ k : Nat, k ≤ L.length ∧ v11 = .int .i64 (k : Int) ∧ v5 = .int .i64 (wsum ws (L.take k))) (fun _ _ v11 => L.length - (intOf v11).toNat)
  case atStart => exact ⟨0, Nat.zero_le _, rfl, rfl⟩
  case round =>
    obtain ⟨k, hk, rfl, rfl⟩ := hrel
    by_cases hlt : k < L.length
    · have hltz : (k : Int) < (L.length : Int) := by omega
      obtain ⟨ad, v, rfl, hcell, hK⟩ := elem_at (d := Kd.int .i64) rfl HC1.out k hlt
      obtain ⟨y, hy⟩ : ∃ y : Nat, L[k] = (y : Int) := ⟨L[k].toNat, by have := HIN.out _ (List.getElem_mem hlt); omega⟩
      obtain rfl : v = .int .i64 (y : Int) := by
        have : [v] = [Value.int .i64 L[k]] := hK
        rw [hy] at this
        simpa using this
      have hyn : y < n := by have := HIN.out _ (List.getElem_mem hlt); omega
      have hyl : y < ws.length := by rw [HL.out]; exact hyn
      obtain ⟨ad2, v2, rfl, hcell2, hK2⟩ := elem_at (d := Kd.int .i64) rfl HC.out y hyl
      obtain rfl : v2 = .int .i64 ws[y] := by
        have : [v2] = [Value.int .i64 ws[y]] := hK2
        simpa using this
      have l2 := pw_cell_below HB1.out hcell2
      have hs := HW.out (L.take k)
      have hs2 := HW.out (L.take (k + 1))
      have htk : (L.take k).length ≤ 7 := by rw [List.length_take]; omega
      have hsn : wsum ws (L.take (k + 1)) = wsum ws (L.take k) + ws[y] := by
        rw [List.take_succ_eq_append_getElem hlt, wsum_snoc, hy, Int.toNat_natCast]
        simp [List.getD, List.getElem?_eq_getElem hyl]
      have hx : 0 ≤ ws[y] ∧ ws[y] ≤ 1000 := by
        have a1 := HW.out [(y : Int)]
        have : wsum ws [(y : Int)] = ws[y] := by simp [wsum, List.getD, List.getElem?_eq_getElem hyl]
        rw [this] at a1
        simpa using a1
      generalize wsum ws (L.take k) = s at *
      generalize ws[y] = x at *
      have HSN := Aside0.mk hsn
      clear hsn hK hK2 hcell2 hs2
      have hs0 := hs.1
      have hs1 : s ≤ 7000 := by omega
      have hx0 := hx.1
      have hx1 := hx.2
      have hyz : (y : Int) < (n : Int) := by omega
      clear hs hx htk
      go_wp2
      go_round
      case rel => exact ⟨k + 1, by omega, by go_num, by rw [HSN.out]⟩
      case measure => simp [intOf]; omega
    · have hltz : ¬ (k : Int) < (L.length : Int) := by omega
      obtain rfl : k = L.length := by omega
      rw [List.take_length]
      generalize hS : wsum ws L = s at *
      have HS := Aside0.mk hS
      clear hS
      go_wp2
      go_ret
      exact ⟨by rw [HS.out]; rfl, HB1.out⟩

set_option maxHeartbeats 2000000 in
theorem weighted_calls (ws : List Int) (q : Int) (A : Option Addr) (cap : Nat) (w : World) (hC : Kd.C (Kd.int .i64) w A ws.length ws) (hcap : ws.length ≤ cap) (hn1 : 1 ≤ ws.length) (hn : ws.length ≤ 7) (hw : ∀ x ∈ ws, 0 ≤ x ∧ x ≤ 1000) (hq0 : 0 ≤ q) (hq : q ≤ 7001) :
    Calls Try.prog 8 #[.slice A ws.length cap, .int .i64 q] w (FamRes w (ws.length : Int) (famN ws.length (weighP ws q)) 0) := by
  have eg : ∀ args w, (callFunc 20 args).run Try.prog w = .ok (.enter 20 args) w := enters_of Try.func20 (by kernel_rfl) rfl
  have eg1 : ∀ args w, (callFunc 18 args).run Try.prog w = .ok (.enter 18 args) w := enters_of Try.func18 (by kernel_rfl) rfl
  have hu := Try.underlying26
  have HW1 := fun W => within_calls (ws.length : Int) 1 7 W
  have HW2 := fun W => within_calls q 0 7001 W
  rw [decide_eq_true (show (1 : Int) ≤ ws.length ∧ (ws.length : Int) ≤ 7 by omega)] at HW1
  rw [decide_eq_true (show (0 : Int) ≤ q ∧ q ≤ 7001 by omega)] at HW2
  have HCF := fun W h => contains_ints (d := Kd.int .i64) rfl 18 #[] eg1 (fun _ => false) (fun x => 0 ≤ x ∧ x ≤ 1000) A cap ws W h hw (fun W' x v hb hx hK => by
    obtain rfl : v = .int .i64 x := by
      have : [v] = [Value.int .i64 x] := hK
      simpa using this
    exact weigh1_calls x W' hx)
  rw [show (ws.any fun _ => false) = false by simp] at HCF
  have HD : ∀ W B1 B2, W.cell? ⟨B1, 0, none⟩ = some (.slice A ws.length cap) → W.cell? ⟨B2, 0, none⟩ = some (.int .i64 q) → Kd.C (Kd.int .i64) W A ws.length ws → PredN 20 #[] #[.pointer (some ⟨B1, 0, none⟩), .pointer (some ⟨B2, 0, none⟩)] (weighP ws q) (2 ^ ws.length) W :=
    fun W B1 B2 h1 h2 h3 W' c hb hc => weigh2_calls ws q A cap ws.length hn rfl hw B1 B2 W' (pw_cell_below hb h1) (pw_cell_below hb h2) (C_below h3 hb) c hc
  have HF := fun W B1 B2 h1 h2 h3 => familyOf_calls ws.length hn 20 #[] #[.pointer (some ⟨B1, 0, none⟩), .pointer (some ⟨B2, 0, none⟩)] eg (weighP ws q) W (HD W B1 B2 h1 h2 h3)
  have HC := Aside0.mk hC
  clear hC hw HD
  generalize hF : famN ws.length (weighP ws q) = F at *
  clear hF
  go_enter Try.func8, Try.ntmps8
  go_wp2_with (fail)
  obtain ⟨W0, hW0⟩ : ∃ W0 : World, W0 = ((w.alloc (.cells #[.slice A ws.length cap] 29)).alloc (.cells #[.int .i64 q] 2)).alloc (.cells #[.int .i64 0, .slice none 0 0] 26) := ⟨_, rfl⟩
  rw [← hW0]
  have hb0 : Below w.heap.size w W0 := by rw [hW0]; exact below_alloc (below_alloc (below_alloc (Below.refl _ _) _) _) _
  have c1 : W0.cell? ⟨w.heap.size, 0, none⟩ = some (.slice A ws.length cap) := by rw [hW0]; exact (blk_cell (blk_alloc (blk_alloc (blk_at rfl) _) _) 0).trans rfl
  have c2 : W0.cell? ⟨w.heap.size + 1, 0, none⟩ = some (.int .i64 q) := by rw [hW0]; exact (blk_cell (blk_alloc (blk_at (by simp)) _) 0).trans rfl
  have b3 : W0.heap[w.heap.size + 1 + 1]? = some (.cells #[.int .i64 0, .slice none 0 0] 26 (0, 0)) := by rw [hW0]; exact blk_at (by simp)
  have hs0 : w.heap.size + 1 + 1 < W0.heap.size := by rw [hW0]; simp
  clear hW0
  have HB0 := Aside0.mk hb0
  have C1 := Aside0.mk c1
  have C2 := Aside0.mk c2
  have B3 := Aside0.mk b3
  clear hb0 b3
  go_wp2_with (first | (go_at_call_of 16 (Value.int .i64 (ws.length : Int)); refine (HW1 _).mono ?_; rintro e w' ⟨rfl, qn, rfl⟩) | (go_at_call_of 16 (Value.int .i64 q); refine (HW2 _).mono ?_; rintro e w' ⟨rfl, q2, rfl⟩) | (go_at_call 17; refine (HCF _ ?hc).mono ?_; (case hc => exact C_below HC.out (by repeat (first | exact HB0.out | apply pw_below_drewN))); rintro e w1 ⟨rfl, hb1⟩; have c11 := pw_cell_below hb1 C1.out; have c21 := pw_cell_below hb1 C2.out; have HB1 := Aside0.mk (below_then (pw_below_drewN HB0.out _) (by simp; omega) hb1); have HZ1 := Aside0.mk (blk_below (w := W0.drewN _) B3.out hb1); clear hb1) | (go_at_call 19; refine (HF _ w.heap.size (w.heap.size + 1) ?hx ?hy ?hz).mono ?_; (case hx => exact c11); (case hy => exact c21); (case hz => exact C_below HC.out (by repeat (first | exact HB1.out | apply pw_below_drewN))); rintro e w2 ⟨v2, rfl, hs2, hb2⟩; have HZ2 := Aside0.mk (blk_below (blk_drewN HZ1.out _) hb2); have z0 : w2.cell? ⟨w.heap.size + 1 + 1, 0, none⟩ = some (.int .i64 0) := (blk_cell HZ2.out 0).trans rfl; have z1 : w2.cell? ⟨w.heap.size + 1 + 1, 1, none⟩ = some (.slice none 0 0) := (blk_cell HZ2.out 1).trans rfl; have f0 := blk_frozen HZ2.out 0; have f1 := blk_frozen HZ2.out 1; obtain ⟨A2, c2', rfl⟩ := S_slice hs2; have HS := Aside0.mk hs2; have HB2 := Aside0.mk hb2; clear hs2 hb2))
  have p0 := fun a b => put0 (a := a) (b := b) HZ2.out
  have p1 := fun a b => put1 (a := a) (b := b) HZ2.out
  have hsz := HB1.out.size
  refine bodyPost_ret (v := .tuple #[.agg #[.int .i64 (ws.length : Int), .slice A2 F.length c2'], .int .i64 0]) (by simp [results, Try.results8, go_sem, p0, p1]) rfl ⟨_, rfl, S_put HZ2.out (S_lower HS.out (by simpa using hsz)), ?_⟩
  exact below_set (below_set (below_then (pw_below_drewN HB1.out _) (by simpa using hsz) HB2.out) (by omega)) (by omega)

/-! ### as plain functions (none where the arguments are not right) -/
def WeightF (ws : List Int) (q : Int) : Option (Int × List (List Int) × Int) := if (1 ≤ ws.length ∧ ws.length ≤ 7) ∧ (∀ x ∈ ws, 0 ≤ x ∧ x ≤ 1000) ∧ 0 ≤ q ∧ q ≤ 7001 then some (ws.length, famN ws.length (weighP ws q), 0) else none
theorem WeightF_calls (A : Option Addr) (cap : Nat) (ws : List Int) (q : Int) (r1 : Int) (r2 : List (List Int)) (r3 : Int) (w : World) (hC : Kd.C (Kd.int .i64) w A ws.length ws) (hcap : ws.length ≤ cap) (h : WeightF ws q = some (r1, r2, r3)) :
    Calls Try.prog 8 #[.slice A ws.length cap, .int .i64 q] w (FamRes w r1 r2 r3) := by
  unfold WeightF at h
  split at h
  · rename_i hh
    obtain ⟨rfl, rfl, rfl⟩ : (ws.length : Int) = r1 ∧ famN ws.length (weighP ws q) = r2 ∧ (0 : Int) = r3 := by simpa using h
    exact weighted_calls ws q A cap w hC hcap hh.1.1 hh.1.2 hh.2.1 hh.2.2.1 hh.2.2.2
  · cases h

end Go.Proofs.Ytgemfighmnnmeaa.Ops2

