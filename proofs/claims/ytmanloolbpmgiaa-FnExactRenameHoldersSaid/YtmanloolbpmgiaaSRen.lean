/- Contracts of the reference's l01Renamed and RenameHolders. -/
import Derived.Test.YtmanloolbpmgiaaRenF
import Derived.Test.YtmanloolbpmgiaaRen
import Derived.Test.YtmanloolbpmgiaaSTab
import Derived.Test.YtmanloolbpmgiaaTabs
import Derived.Test.YtmanloolbpmgiaaSHas
namespace Go.Proofs.Ytmanloolbpmgiaa.SRen
open Go.RowKit Go.Lib Go.Proofs Go.Proofs.YtmanloolbpmgiaaW.PrintWords Go.Proofs.YtmanloolbpmgiaaW.PrintWords.Kd Go.Proofs.YtmanloolbpmgiaaW.PrintLast Go.Proofs.YtmanloolbpmgiaaW.PrintMore Go.Proofs.Ytmanloolbpmgiaa.G Go.Proofs.Ytmanloolbpmgiaa.Fam Go.Proofs.Ytmanloolbpmgiaa.Loops Go.Proofs.Ytmanloolbpmgiaa.Bits Go.Proofs.Ytmanloolbpmgiaa.Sorting Go.Proofs.Ytmanloolbpmgiaa.Crowds Go.Proofs.Ytmanloolbpmgiaa.Sorted Go.Proofs.Ytmanloolbpmgiaa.Idx Go.Proofs.Ytmanloolbpmgiaa.Valid Go.Proofs.Ytmanloolbpmgiaa.FamLaw Go.Proofs.Ytmanloolbpmgiaa.Opens Go.Proofs.Ytmanloolbpmgiaa.Ops Go.Proofs.Ytmanloolbpmgiaa.From Go.Proofs.Ytmanloolbpmgiaa.Ref Go.Proofs.Ytmanloolbpmgiaa.Ok Go.Proofs.Ytmanloolbpmgiaa.SDual Go.Proofs.Ytmanloolbpmgiaa.SOpen Go.Proofs.Ytmanloolbpmgiaa.Order Go.Proofs.Ytmanloolbpmgiaa.OrderLaw Go.Proofs.Ytmanloolbpmgiaa.RenLaw Go.Proofs.Ytmanloolbpmgiaa.RenFam Go.Proofs.Ytmanloolbpmgiaa.RenF Go.Proofs.Ytmanloolbpmgiaa.RenStep Go.Proofs.Ytmanloolbpmgiaa.SHas
set_option linter.unusedVariables false
set_option linter.unusedSimpArgs false

theorem has_bit {n : Nat} {g order : List Int} (hg : isGroupN n g) (hr : ∀ x ∈ order, 0 ≤ x) (k : Nat) (hk : k < order.length) : decide (order.getD k 0 ∈ g) = (bitsN g).testBit (ordN order k) := by
  have hm : order.getD k 0 ∈ order := by
    rw [show order.getD k 0 = order[k] by simp [List.getD, hk]]
    exact List.getElem_mem _
  have h0 := hr _ hm
  unfold ordN
  rw [bitsN_test, Bool.eq_iff_iff, decide_eq_true_iff, List.any_eq_true]
  constructor
  · intro h
    exact ⟨_, h, decide_eq_true rfl⟩
  · rintro ⟨x, hx, e⟩
    have h1 := hg.1 x hx
    have h2 := of_decide_eq_true e
    have h3 : x = order.getD k 0 := by omega
    exact h3 ▸ hx
theorem ren_lt' (k : Nat) (order : List Int) (b : Nat) : renB k (ordN order) b < 2 ^ k := ren_lt k (ordN order) b
theorem ren_zero (order : List Int) (b : Nat) : groupN (renB 0 (ordN order) b) = [] := by
  rw [show renB 0 (ordN order) b = 0 from rfl]
  decide
theorem ren_len (k : Nat) (order : List Int) (b : Nat) : (groupN (renB k (ordN order) b)).length ≤ 7 := by
  unfold groupN
  rw [List.length_map]
  have := List.length_filter_le (renB k (ordN order) b).testBit (List.range 7)
  simpa using this
theorem infoI : (Try.prog.info? 2).map (fun i => (i.zero, i.size, i.bytes)) = some (some (.int .i64 0), 1, 8) := by kernel_rfl
theorem rows_len {n : Nat} {gs : List (List Int)} (hv : ValidF (n : Int) gs) : gs.length ≤ 128 := by
  have hn : n ≤ 7 := by have := hv.1; omega
  rw [← famN_openN hn hv]
  unfold famN crowdsN
  rw [List.length_mergeSort]
  exact crowds_len n _ hn
theorem take_map (f : List Int → List Int) (gs : List (List Int)) (i : Nat) (h : i < gs.length) : (gs.take (i + 1)).map f = (gs.take i).map f ++ [f (gs.getD i [])] := by
  rw [List.take_succ_eq_append_getElem h, List.map_append]
  simp [List.getD, h]

set_option maxHeartbeats 16000000 in
set_option maxRecDepth 100000 in
theorem renamed_calls (n : Nat) (A : Option Addr) (cap : Nat) (gs : List (List Int)) (AO : Option Addr) (cO : Nat) (order : List Int) (B : Nat) (w : World) (hF : FamBox w B (n : Int) A cap gs) (hcap : gs.length ≤ cap) (hO : Kd.C (Kd.int .i64) w AO order.length order) (hcO : order.length ≤ cO) (hv : ValidF (n : Int) gs) (ho : OrderOk (n : Int) order) :
    Calls Try.prog 80 #[.pointer (some ⟨B, 0, none⟩), .slice AO order.length cO] w fun e w' => ∃ v, e = .returned (.agg #[.int .i64 (n : Int), v]) ∧ Kd.S dR 28 w' w.heap.size (fun _ => True) v ((gs.map (renG n order)).mergeSort leL) ∧ Below w.heap.size w w' := by
  have hu := Try.underlying26
  have hut := Try.underlying24
  have hui := Try.underlying28
  have hn : n ≤ 7 := by have := hv.1; omega
  obtain rfl : order.length = n := by have := ho.2.1; omega
  have HGL := Aside0.mk (rows_len hv)
  have HST := Aside0.mk (fun b k (hk : k < order.length) => ren_step order b k (by omega) (ren_lt' k order b))
  have HRL := Aside0.mk (fun k b => ren_len k order b)
  have HR0 := Aside0.mk (ren_zero order)
  have HTM := Aside0.mk (take_map (renG order.length order) gs)
  have HRG := Aside0.mk (show ∀ g, renG order.length order g = groupN (renB order.length (ordN order) (bitsN g)) from fun _ => rfl)
  have HCD := Aside0.mk (fun i (hi : i < gs.length) k (hk : k < order.length) => has_bit (n := order.length) (g := gs.getD i []) (order := order) (by
    have := hv.2.1 (gs.getD i []) (by rw [getDg hi]; exact List.getElem_mem _)
    simpa using this) (fun x hx => (ho.1 x hx).1) k (by omega))
  have HF := Aside0.mk hF
  have HO := Aside0.mk hO
  have HBs := Aside0.mk (show w.heap.size + 1 = (w.alloc (.cells #[.int .i64 0, .slice none 0 0] 26)).heap.size by simp)
  have HBW := Aside0.mk (show Below w.heap.size w (w.alloc (.cells #[.int .i64 0, .slice none 0 0] 26)) from below_alloc (Below.refl _ _) _)
  clear hF hO hv ho
  generalize renG order.length order = rg at *
  generalize hRB : (fun k b => renB k (ordN order) b) = rb at *
  have hRB' : ∀ k b, renB k (ordN order) b = rb k b := fun k b => congrFun (congrFun hRB k) b
  simp only [hRB'] at HST HRL HR0 HRG
  clear hRB hRB'
  go_enter Try.func80, Try.ntmps80
  go_wp2_with (fail)
  go_loopg [5, 6] gs.length (fun gg v5 v6 wr => ∃ (c : Nat) (u : Value), c ≤ gs.length ∧ gs.length - c ≤ gg ∧ v6 = .int .i64 (c : Int) ∧ u = v5 ∧ Aside0 (Kd.S dR 28 wr (w.heap.size + 1) (fun _ => True) u ((gs.take c).map rg)) ∧ Aside0 (Below (w.heap.size + 1) (w.alloc (.cells #[.int .i64 0, .slice none 0 0] 26)) wr))
  case atStart => exact ⟨0, _, Nat.zero_le _, by omega, rfl, rfl, ⟨by have := S_empty dR 28 (w.alloc (.cells #[.int .i64 0, .slice none 0 0] 26)) (w.heap.size + 1) (by simp); simpa using this⟩, ⟨(below_alloc (Below.refl _ _) _).mono (by simp)⟩⟩
  case round =>
    obtain ⟨c, u, hcL, hgg, rfl, rfl, HS, HB⟩ := hrel
    have HWB := Aside0.mk (show Below w.heap.size w wr from below_then HBW.out HBW.out.size (HB.out.mono (by simp)))
    have HFR := Aside0.mk (HF.out.later HWB.out)
    have hb1 := HFR.out.2.1
    by_cases hlt : c < gs.length
    · have hltz : (c : Int) < (gs.length : Int) := by omega
      have hcc : c < cap := by omega
      obtain ⟨ad, AR, cR, rfl, hrow, hcR, hCR⟩ := row_at HFR.out.2.2 hlt
      have HROW := Aside0.mk hrow
      have HCR := Aside0.mk hCR
      have HCc := Aside0.mk (fun k hk => HCD.out c hlt k hk)
      have HTc := Aside0.mk (HTM.out c hlt)
      clear hrow hCR
      generalize gs.getD c [] = g at *
      have HRg := Aside0.mk (HRG.out g)
      generalize bitsN g = b at *
      go_wp2_with (fail)
      generalize hW3 : wr = W3 at *
      clear hW3
      go_loopg [7, 8] order.length (fun g2 v7 v8 wr => ∃ (k : Nat) (x : Value), k ≤ order.length ∧ order.length - k ≤ g2 ∧ v8 = .int .i64 (k : Int) ∧ x = v7 ∧ Aside0 (Kd.R (Kd.int .i64) 2 wr W3.heap.size (fun _ => True) x (groupN (rb k b))) ∧ Aside0 (Below W3.heap.size W3 wr))
      case atStart => exact ⟨0, _, Nat.zero_le _, by omega, rfl, rfl, ⟨by rw [HR0.out]; exact S_R (S_empty (Kd.int .i64) _ W3 W3.heap.size (Nat.le_refl _))⟩, ⟨below_alloc (Below.refl _ _) _⟩⟩
      case round =>
        obtain ⟨k, x, hkn, hg2, rfl, rfl, HR, HBI⟩ := hrel
        have HFI := Aside0.mk (HFR.out.later HBI.out)
        clear hb1
        by_cases hlk : k < order.length
        · have hlkz : (k : Int) < (order.length : Int) := by omega
          have hb1 := HFI.out.2.1
          have hrw := pw_cell_below HBI.out HROW.out
          obtain ⟨ado, rfl, hoc⟩ := row_cell (Kd.C_below (Kd.C_below HO.out HWB.out) HBI.out) (show k < order.length by omega)
          have HCRI := Aside0.mk (Kd.C_below HCR.out HBI.out)
          have HH := fun W hc => shas_calls AR cR g (order.getD k 0) W hc hcR
          have HST' := Aside0.mk (HST.out b k hlk)
          have hq := HCc.out k hlk
          generalize order.getD k 0 = y at *
          cases ht : b.testBit (ordN order k) with
          | true =>
            rw [hq, ht] at HH
            rw [ht, if_pos rfl] at HST'
            have HLL := Aside0.mk (HRL.out k b)
            clear hq ht
            go_wp2_with (fail)
            go_quiet (first | (go_at_call 95; exact Calls.quiet_of (HH _ (by repeat (first | exact HCRI.out | apply Kd.C_drewN | apply C_drew)))))
            go_wp2_with (at_builtin; refine R_append (Kd.int .i64) (w0 := W3) (W := wr.drewN nq) W3.heap.size rfl (.tmp 38) (.tmp 40) 28 2 (.int .i64 0) 8 rfl hui infoI rfl (by decide) (by decide) x (groupN (rb k b)) (k : Int) [.int .i64 (k : Int)] (fun _ => True) (fun _ => False) rfl rfl rfl (fun _ hk => hk.elim) (fun _ _ => trivial) (Kd.R_drewN HR.out nq) (pw_below_drewN HBI.out nq) (pw_below_drewN HBI.out nq).size ?hl ?_; (case hl => have := HLL.out; omega); intro v6 w6 hR6 hB6 hg6 hat6; have HR6 := Aside0.mk hR6; have HB6 := Aside0.mk hB6; clear hR6 hB6 hg6 hat6)
            go_roundg (order.length - (k + 1))
            case measure => omega
            case rel => exact ⟨k + 1, _, by omega, by omega, by go_num, rfl, ⟨by rw [HST'.out]; exact HR6.out⟩, HB6⟩
          | false =>
            rw [hq, ht] at HH
            rw [ht, if_neg (by simp)] at HST'
            clear hq ht
            go_wp2_with (fail)
            go_quiet (first | (go_at_call 95; exact Calls.quiet_of (HH _ (by repeat (first | exact HCRI.out | apply Kd.C_drewN | apply C_drew)))))
            go_wp2_with (fail)
            go_roundg (order.length - (k + 1))
            case measure => omega
            case rel => exact ⟨k + 1, _, by omega, by omega, by go_num, rfl, ⟨by rw [HST'.out]; repeat (first | exact HR.out | apply Kd.R_drewN)⟩, ⟨by repeat (first | exact HBI.out | apply pw_below_drewN)⟩⟩
        · have hlkz : ¬ (k : Int) < (order.length : Int) := by omega
          obtain rfl : k = order.length := by omega
          rw [← HRg.out] at HR
          obtain ⟨A3, c3, rfl⟩ := R_slice HR.out
          have HGL1 := HGL.out
          have hlen : ((gs.take c).map rg).length = c := by rw [List.length_map, List.length_take]; omega
          generalize hLs : (gs.take c).map rg = Ls at *
          have HLs := Aside0.mk hLs
          have Hlen := Aside0.mk hlen
          clear hLs hlen
          go_wp2_with (at_builtin; refine S_append dR (w0 := w.alloc (.cells #[.int .i64 0, .slice none 0 0] 26)) (W := wr) (w.heap.size + 1) (by simp) (.tmp 42) (.tmp 44) 24 28 (.slice none 0 0) 24 rfl hut infoR rfl (by decide) (by decide) u Ls (rg g) [.slice A3 (rg g).length c3] (fun _ => True) (fun k => W3.heap.size ≤ k) rfl rfl ?h1 ?h2 ?h3 ?h4 ?h5 ?h6 ?h7 ?_; (case h1 => exact ⟨_, rfl, R_mono (R_lower (R_bound HR.out) (by have := HB.out.size; simpa using this)) (fun k hk => hk.2.1)⟩); (case h2 => exact fun k hk => ⟨trivial, fun e => by have := S_lt HS.out k e.symm; omega⟩); (case h3 => exact fun _ _ => trivial); (case h4 => exact S_mono (S_old HS.out HBI.out) (fun k hk => ⟨trivial, by have := hk.2; omega⟩)); (case h5 => exact below_then HB.out (by have := HB.out.size; simpa using this) HBI.out); (case h6 => have := HB.out.size; have h2 := HBI.out.size; simp at this; omega); (case h7 => have := Hlen.out; omega); intro v3 w3 hS3 hB3 hg3 hat3; have HS3 := Aside0.mk hS3; have HB3 := Aside0.mk hB3; clear hS3 hB3 hg3 hat3)
          go_roundg (gs.length - (c + 1))
          case measure => omega
          case rel => exact ⟨c + 1, _, by omega, by omega, by go_num, rfl, ⟨by rw [HTc.out]; exact HS3.out⟩, HB3⟩
    · have hltz : ¬ (c : Int) < (gs.length : Int) := by omega
      obtain rfl : c = gs.length := by omega
      rw [List.take_length] at HS
      obtain ⟨A1, c1, rfl⟩ := S_slice HS.out
      have hlen62 : (gs.map rg).length < 4611686018427387904 := by have := HGL.out; rw [List.length_map]; omega
      have hS := fun W h => sorted_calls (w.heap.size + 1) (fun _ => True) (.slice A1 (gs.map rg).length c1) (gs.map rg) W h hlen62
      have HL2 : (gs.map rg).length = ((gs.map rg).mergeSort leL).length := by rw [List.length_mergeSort]
      have hbk : ∀ k, some k = (Value.slice A1 (gs.map rg).length c1).ownBlock → w.heap.size + 1 ≤ k := fun k hk => S_base HS.out k hk.symm
      rw [HL2] at hS hbk HS ⊢
      clear HL2 hlen62
      generalize hR : (gs.map rg).mergeSort leL = R at *
      have HR := Aside0.mk hR
      have HBK := Aside0.mk hbk
      have HSC := Aside0.mk hS
      clear hR hbk hS
      have HSZ := Aside0.mk (show w.heap.size + 1 ≤ wr.heap.size by have := HB.out.size; simpa using this)
      have hb0 := HFR.out.1
      go_wp2_with (fail)
      clear hb1
      first | (go_region_with (first | (go_at_call 84; (refine (HSC.out _ ?_).mono ?_); (repeat (first | exact HS.out | apply S_drewN | apply S_drew)); rintro e w1 ⟨rfl, hS', hg'⟩; have HBq := Aside0.mk (below_drew HB.out); have HB1 := Aside0.mk (pw_below_grown HBq.out _ (by have h_ := HBq.out.size; have h2_ := HSZ.out; (try simp at h_ ⊢); omega) hg' (fun k hk => HBK.out k hk.symm)); have HW1 := Aside0.mk (show Below w.heap.size w w1 from below_then (B := w.heap.size) (below_alloc (Below.refl _ _) _) (by simp) (HB1.out.mono (by simp))); have HZ := Aside0.mk (blk_below (blk_at (k := w.heap.size) (W := w) rfl) (HB1.out.mono (B' := (w.alloc (.cells #[.int .i64 0, .slice none 0 0] 26)).heap.size) (by simp))); have z0 : w1.cell? ⟨w.heap.size, 0, none⟩ = some (.int .i64 0) := (blk_cell HZ.out 0).trans rfl; have z1 : w1.cell? ⟨w.heap.size, 1, none⟩ = some (.slice none 0 0) := (blk_cell HZ.out 1).trans rfl; have f0 := blk_frozen HZ.out 0; have f1 := blk_frozen HZ.out 1; have hb0' := (HF.out.later HW1.out).1; have HS' := Aside0.mk hS'; clear hS' hg'))) | fail
      all_goals (
        go_wp2_with (fail)
        have p0 := fun a b => put0 (a := a) (b := b) HZ.out
        have p1 := fun a b => put1 (a := a) (b := b) HZ.out
        refine bodyPost_ret (v := .agg #[.int .i64 (order.length : Int), .slice A1 R.length c1]) (by simp [results, Try.results80, go_sem, p0, p1]) rfl ⟨_, rfl, (by rw [HR.out]; exact S_put HZ.out (S_lower HS'.out (Nat.le_succ _))), ?_⟩
        exact below_set (below_set HW1.out (Nat.le_refl _)) (Nat.le_refl _))

/-- The boxes of the first parameter and the result's variable. -/
def rW (w : World) (n : Int) (A : Option Addr) (cap : Nat) (gs : List (List Int)) : World :=
  (w.alloc (.cells #[.int .i64 n, .slice A gs.length cap] 26)).alloc (.cells #[.int .i64 0, .slice none 0 0] 26)
theorem rW_below (w : World) (n : Int) (A : Option Addr) (cap : Nat) (gs : List (List Int)) : Below w.heap.size w (rW w n A cap gs) := below_alloc (below_alloc (Below.refl _ _) _) _
theorem rW_size (w : World) (n : Int) (A : Option Addr) (cap : Nat) (gs : List (List Int)) : (rW w n A cap gs).heap.size = w.heap.size + 1 + 1 := by simp [rW]
theorem rW_boxes (w : World) (n : Int) (A : Option Addr) (cap : Nat) (gs : List (List Int)) (hC : dR.C w A gs.length gs) (W : World) (hb : Below (rW w n A cap gs).heap.size (rW w n A cap gs) W) :
    FamBox W w.heap.size n A cap gs ∧ W.heap[w.heap.size + 1]? = some (.cells #[.int .i64 0, .slice none 0 0] 26 (0, 0)) :=
  ⟨((FamBox.new w n A cap gs 26 hC).later (by unfold rW at *; exact below_alloc (Below.refl _ _) _)).later hb, blk_below (blk_at (by simp)) hb⟩

set_option maxHeartbeats 4000000 in
set_option maxRecDepth 100000 in
theorem SRename_no (n : Int) (A : Option Addr) (cap : Nat) (gs : List (List Int)) (A' : Option Addr) (cap' : Nat) (g : List Int) (w : World) (hC : dR.C w A gs.length gs) (hcap : gs.length ≤ cap) (hC' : Kd.C (Kd.int .i64) w A' g.length g) (hcap' : g.length ≤ cap') (hv : ¬ ValidF n gs) :
    Calls Try.prog 33 #[.agg #[.int .i64 n, .slice A gs.length cap], .slice A' g.length cap'] w (FamRes w 0 [] 1) := by
  have hu := Try.underlying26
  have HV := fun W h0 h1 h => ok_calls w.heap.size n A cap gs W h0 h1 h
  rw [decide_eq_false hv] at HV
  have HBX := Aside0.mk (rW_boxes w n A cap gs hC)
  have HWB := Aside0.mk (rW_below w n A cap gs)
  have HX0 := Aside0.mk (HBX.out _ (Below.refl _ _))
  clear hC hC' hv
  go_enter Try.func33, Try.ntmps33
  go_wp2_with (fail)
  rw [show (w.alloc (.cells #[.int .i64 n, .slice A gs.length cap] 26)).alloc (.cells #[.int .i64 0, .slice none 0 0] 26) = rW w n A cap gs from rfl]
  (refine (HV _ HX0.out.1.1 HX0.out.1.2.1 HX0.out.1.2.2).mono ?_; rintro e w1 ⟨rfl, hb1⟩; have HB1 := Aside0.mk hb1; have HX := Aside0.mk (HBX.out w1 hb1); have z0 : w1.cell? ⟨w.heap.size + 1, 0, none⟩ = some (.int .i64 0) := (blk_cell HX.out.2 0).trans rfl; have z1 : w1.cell? ⟨w.heap.size + 1, 1, none⟩ = some (.slice none 0 0) := (blk_cell HX.out.2 1).trans rfl; have f0 := blk_frozen HX.out.2 0; have f1 := blk_frozen HX.out.2 1; clear hb1)
  go_wp2_with (fail)
  have p0 := fun a b => put0 (a := a) (b := b) HX.out.2
  have p1 := fun a b => put1 (a := a) (b := b) HX.out.2
  refine bodyPost_ret (v := .tuple #[.agg #[.int .i64 0, .slice none 0 0], .int .i64 1]) (by simp [results, Try.results33, go_sem, p0, p1]) rfl ⟨_, rfl, S_nil _ _ _ _ _, ?_⟩
  exact below_set (below_set (below_then HWB.out HWB.out.size HB1.out) (by omega)) (by omega)

set_option maxHeartbeats 4000000 in
set_option maxRecDepth 100000 in
theorem SRename_far (n : Int) (A : Option Addr) (cap : Nat) (gs : List (List Int)) (A' : Option Addr) (cap' : Nat) (g : List Int) (w : World) (hC : dR.C w A gs.length gs) (hcap : gs.length ≤ cap) (hC' : Kd.C (Kd.int .i64) w A' g.length g) (hcap' : g.length ≤ cap') (hv : ValidF n gs) (ho : ¬ OrderOk n g) :
    Calls Try.prog 33 #[.agg #[.int .i64 n, .slice A gs.length cap], .slice A' g.length cap'] w (FamRes w 0 [] 2) := by
  have hu := Try.underlying26
  have HV := fun W h0 h1 h => ok_calls w.heap.size n A cap gs W h0 h1 h
  rw [decide_eq_true hv] at HV
  have HO := fun W h => order_calls n hv.1 A' cap' g W h hcap'
  rw [decide_eq_false ho] at HO
  have HBX := Aside0.mk (rW_boxes w n A cap gs hC)
  have HWB := Aside0.mk (rW_below w n A cap gs)
  have HX0 := Aside0.mk (HBX.out _ (Below.refl _ _))
  have HC' := Aside0.mk (Kd.C_below hC' HWB.out)
  clear hC hC' hv ho
  go_enter Try.func33, Try.ntmps33
  go_wp2_with (fail)
  rw [show (w.alloc (.cells #[.int .i64 n, .slice A gs.length cap] 26)).alloc (.cells #[.int .i64 0, .slice none 0 0] 26) = rW w n A cap gs from rfl]
  (refine (HV _ HX0.out.1.1 HX0.out.1.2.1 HX0.out.1.2.2).mono ?_; rintro e w1 ⟨rfl, hb1⟩; have HB1 := Aside0.mk hb1; have HX1 := Aside0.mk (HBX.out w1 hb1); have cf0 := HX1.out.1.1; clear hb1)
  go_wp2_with (fail)
  (refine (HO _ (Kd.C_below HC'.out HB1.out)).mono ?_; rintro e w2 ⟨rfl, hb2⟩; have HB2 := Aside0.mk (below_then HB1.out HB1.out.size hb2); have HX := Aside0.mk (HBX.out w2 HB2.out); clear hb2 cf0; have z0 : w2.cell? ⟨w.heap.size + 1, 0, none⟩ = some (.int .i64 0) := (blk_cell HX.out.2 0).trans rfl; have z1 : w2.cell? ⟨w.heap.size + 1, 1, none⟩ = some (.slice none 0 0) := (blk_cell HX.out.2 1).trans rfl; have f0 := blk_frozen HX.out.2 0; have f1 := blk_frozen HX.out.2 1)
  go_wp2_with (fail)
  have p0 := fun a b => put0 (a := a) (b := b) HX.out.2
  have p1 := fun a b => put1 (a := a) (b := b) HX.out.2
  refine bodyPost_ret (v := .tuple #[.agg #[.int .i64 0, .slice none 0 0], .int .i64 2]) (by simp [results, Try.results33, go_sem, p0, p1]) rfl ⟨_, rfl, S_nil _ _ _ _ _, ?_⟩
  exact below_set (below_set (below_then HWB.out HWB.out.size HB2.out) (by omega)) (by omega)

set_option maxHeartbeats 4000000 in
set_option maxRecDepth 100000 in
theorem SRename_yes (n : Nat) (A : Option Addr) (cap : Nat) (gs : List (List Int)) (A' : Option Addr) (cap' : Nat) (g : List Int) (w : World) (hC : dR.C w A gs.length gs) (hcap : gs.length ≤ cap) (hC' : Kd.C (Kd.int .i64) w A' g.length g) (hcap' : g.length ≤ cap') (hv : ValidF (n : Int) gs) (ho : OrderOk (n : Int) g) :
    Calls Try.prog 33 #[.agg #[.int .i64 (n : Int), .slice A gs.length cap], .slice A' g.length cap'] w (FamRes w (n : Int) ((gs.map (renG n g)).mergeSort leL) 0) := by
  have hu := Try.underlying26
  have HV := fun W h0 h1 h => ok_calls w.heap.size (n : Int) A cap gs W h0 h1 h
  rw [decide_eq_true hv] at HV
  have HO := fun W h => order_calls (n : Int) hv.1 A' cap' g W h hcap'
  rw [decide_eq_true ho] at HO
  have HN := fun W hF h => renamed_calls n A cap gs A' cap' g w.heap.size W hF hcap h hcap' hv ho
  have HBX := Aside0.mk (rW_boxes w (n : Int) A cap gs hC)
  have HWB := Aside0.mk (rW_below w (n : Int) A cap gs)
  have HX0 := Aside0.mk (HBX.out _ (Below.refl _ _))
  have HC' := Aside0.mk (Kd.C_below hC' HWB.out)
  clear hC hC' hv ho
  generalize hFF : (gs.map (renG n g)).mergeSort leL = F at *
  clear hFF
  go_enter Try.func33, Try.ntmps33
  go_wp2_with (fail)
  rw [show (w.alloc (.cells #[.int .i64 (n : Int), .slice A gs.length cap] 26)).alloc (.cells #[.int .i64 0, .slice none 0 0] 26) = rW w (n : Int) A cap gs from rfl]
  (refine (HV _ HX0.out.1.1 HX0.out.1.2.1 HX0.out.1.2.2).mono ?_; rintro e w1 ⟨rfl, hb1⟩; have HB1 := Aside0.mk hb1; have HX1 := Aside0.mk (HBX.out w1 hb1); have cf0 := HX1.out.1.1; clear hb1)
  go_wp2_with (fail)
  (refine (HO _ (Kd.C_below HC'.out HB1.out)).mono ?_; rintro e w2 ⟨rfl, hb2⟩; have HB2 := Aside0.mk (below_then HB1.out HB1.out.size hb2); have HX2 := Aside0.mk (HBX.out w2 HB2.out); clear hb2 cf0)
  go_wp2_with (fail)
  (refine (HN _ HX2.out.1 (Kd.C_below HC'.out HB2.out)).mono ?_; rintro e w3 ⟨v3, rfl, hs3, hb3⟩; obtain ⟨A3, c3, rfl⟩ := S_slice hs3; have HS3 := Aside0.mk hs3; have HB3 := Aside0.mk (below_then HB2.out HB2.out.size hb3); have HX := Aside0.mk (HBX.out w3 HB3.out); clear hs3 hb3; have z0 : w3.cell? ⟨w.heap.size + 1, 0, none⟩ = some (.int .i64 0) := (blk_cell HX.out.2 0).trans rfl; have z1 : w3.cell? ⟨w.heap.size + 1, 1, none⟩ = some (.slice none 0 0) := (blk_cell HX.out.2 1).trans rfl; have f0 := blk_frozen HX.out.2 0; have f1 := blk_frozen HX.out.2 1)
  go_wp2_with (fail)
  have p0 := fun a b => put0 (a := a) (b := b) HX.out.2
  have p1 := fun a b => put1 (a := a) (b := b) HX.out.2
  have hW2 := below_then HWB.out HWB.out.size HB2.out
  refine bodyPost_ret (v := .tuple #[.agg #[.int .i64 (n : Int), .slice A3 F.length c3], .int .i64 0]) (by simp [results, Try.results33, go_sem, p0, p1]) rfl ⟨_, rfl, S_put HX.out.2 (S_lower HS3.out hW2.size), ?_⟩
  exact below_set (below_set (below_then HWB.out HWB.out.size HB3.out) (by omega)) (by omega)

theorem SRenameHolders_calls (n : Int) (A : Option Addr) (cap : Nat) (gs : List (List Int)) (A' : Option Addr) (cap' : Nat) (g : List Int) (w : World) (hC : dR.C w A gs.length gs) (hcap : gs.length ≤ cap) (hC' : Kd.C (Kd.int .i64) w A' g.length g) (hcap' : g.length ≤ cap') :
    Calls Try.prog 33 #[.agg #[.int .i64 n, .slice A gs.length cap], .slice A' g.length cap'] w (FamRes w (RenRes n gs g).1 (RenRes n gs g).2.1 (RenRes n gs g).2.2) := by
  unfold RenRes
  by_cases hv : ValidF n gs
  · rw [if_pos hv]
    have hr := hv.1
    obtain ⟨m, rfl⟩ : ∃ m : Nat, n = (m : Int) := ⟨n.toNat, by omega⟩
    by_cases ho : OrderOk (m : Int) g
    · rw [if_pos ho, Int.toNat_natCast, ren_family (by omega) ho hv]
      exact SRename_yes m A cap gs A' cap' g w hC hcap hC' hcap' hv ho
    · rw [if_neg ho]
      exact SRename_far m A cap gs A' cap' g w hC hcap hC' hcap' hv ho
  · rw [if_neg hv]
    exact SRename_no n A cap gs A' cap' g w hC hcap hC' hcap' hv

end Go.Proofs.Ytmanloolbpmgiaa.SRen
