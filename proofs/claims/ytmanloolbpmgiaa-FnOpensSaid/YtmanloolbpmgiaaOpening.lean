/- Contracts of OpeningGroups and GreatestBlocked. -/
import Derived.Test.YtmanloolbpmgiaaCrowds
namespace Go.Proofs.Ytmanloolbpmgiaa.Opening
open Go.RowKit Go.Proofs.YtmanloolbpmgiaaW.PrintWords Go.Proofs.YtmanloolbpmgiaaW.PrintWords.Kd Go.Proofs.YtmanloolbpmgiaaW.PrintLast Go.Proofs.YtmanloolbpmgiaaW.PrintMore Go.Proofs.Ytmanloolbpmgiaa.G Go.Proofs.Ytmanloolbpmgiaa.Fam Go.Proofs.Ytmanloolbpmgiaa.Bits Go.Proofs.Ytmanloolbpmgiaa.Loops Go.Proofs.Ytmanloolbpmgiaa.Valid Go.Proofs.Ytmanloolbpmgiaa.Opens Go.Proofs.Ytmanloolbpmgiaa.Idx Go.Proofs.Ytmanloolbpmgiaa.Sorting Go.Proofs.Ytmanloolbpmgiaa.Crowds Go.Proofs.Ytmanloolbpmgiaa.FamOf Go.Proofs.Ytmanloolbpmgiaa.Ops
set_option linter.unusedVariables false
set_option linter.unusedSimpArgs false

/-- Rows and a code, as they are handed back. -/
def RowsRes (w : World) (gs : List (List Int)) (code : Int) (e : Ending) (w' : World) : Prop :=
  ∃ v, e = .returned (.tuple #[v, .int .i64 code]) ∧ Kd.S dR 28 w' w.heap.size (fun _ => True) v gs ∧ Below w.heap.size w w'

set_option maxHeartbeats 2000000 in
theorem Opening_no (n : Int) (A : Option Addr) (cap : Nat) (gs : List (List Int)) (w : World) (hC : dR.C w A gs.length gs) (hcap : gs.length ≤ cap) (hv : ¬ ValidF n gs) :
    Calls Try.prog 16 #[.agg #[.int .i64 n, .slice A gs.length cap]] w (RowsRes w [] 1) := by
  have hu := Try.underlying26
  have HV := fun W h => valid_calls n A cap gs W h hcap
  rw [decide_eq_false hv] at HV
  have HC := Aside0.mk hC
  clear hC hv
  go_enter Try.func16, Try.ntmps16
  go_wp2_with (go_at_call 59; refine (HV _ (Kd.C_alloc HC.out _)).mono ?_; rintro e w1 ⟨rfl, hb1⟩; have HB := Aside0.mk hb1; clear hb1)
  refine bodyPost_ret (v := .tuple #[.slice none 0 0, .int .i64 1]) (by simp [results, Try.results16, go_sem]) rfl ⟨_, rfl, S_nil _ _ _ _ _, below_then (below_alloc (Below.refl _ _) _) (by simp) HB.out⟩

set_option maxHeartbeats 2000000 in
theorem Opening_yes (n : Nat) (hn : n ≤ 7) (A : Option Addr) (cap : Nat) (gs : List (List Int)) (w : World) (hC : dR.C w A gs.length gs) (hcap : gs.length ≤ cap) (hv : ValidF (n : Int) gs) :
    Calls Try.prog 16 #[.agg #[.int .i64 (n : Int), .slice A gs.length cap]] w (RowsRes w (crowdsN n (openN gs)) 0) := by
  have eg : ∀ args w, (callFunc 61 args).run Try.prog w = .ok (.enter 61 args) w := enters_of Try.func61 (by kernel_rfl) rfl
  have hu := Try.underlying26
  have h7 : 2 ^ n ≤ 128 := by have := Nat.pow_le_pow_right (n := 2) (by omega) hn; simpa using this
  have HV := fun W h => valid_calls (n : Int) A cap gs W h hcap
  rw [decide_eq_true hv] at HV
  have HCR := fun W (h : dR.C W A gs.length gs) => crowds_calls n hn 61 #[.agg #[.int .i64 (n : Int), .slice A gs.length cap]] #[] eg (openN gs) W (fun W' c hb hc => opens_calls (n : Int) A cap gs c W' (C_below h hb) hcap (smalls_of hv) (by omega))
  have HBX := Aside0.mk (FamBox.new w (n : Int) A cap gs 26 hC)
  have HC := Aside0.mk hC
  clear hC hv h7
  generalize hF : crowdsN n (openN gs) = F at *
  have HFF := Aside0.mk hF
  clear hF
  go_enter Try.func16, Try.ntmps16
  go_wp2_with (first | (go_at_call 59; refine (HV _ (Kd.C_alloc HC.out _)).mono ?_; rintro e w1 ⟨rfl, hb1⟩; have HX := Aside0.mk (HBX.out.later hb1); have cf0 := HX.out.1; have cf1 := HX.out.2.1; have HB := Aside0.mk hb1; clear hb1) | (go_at_call 64; refine (HCR _ HX.out.2.2).mono ?_; rintro e w2 ⟨v2, rfl, hs2, hb2⟩; have HS := Aside0.mk hs2; have HB2 := Aside0.mk hb2; clear hs2 hb2))
  have h1 : Below w.heap.size w w1 := below_then (below_alloc (Below.refl _ _) _) (by simp) HB.out
  refine bodyPost_ret (v := .tuple #[v2, .int .i64 0]) (by simp [results, Try.results16, go_sem]) rfl ⟨_, rfl, S_lower HS.out h1.size, below_then h1 h1.size HB2.out⟩

def OpeningF (n : Int) (gs : List (List Int)) : List (List Int) × Int := if ValidF n gs then (crowdsN n.toNat (openN gs), 0) else ([], 1)
theorem OpeningF_calls (n : Int) (A : Option Addr) (cap : Nat) (gs : List (List Int)) (r1 : List (List Int)) (r2 : Int) (w : World) (hC : dR.C w A gs.length gs) (hcap : gs.length ≤ cap) (h : some (OpeningF n gs) = some (r1, r2)) :
    Calls Try.prog 16 #[.agg #[.int .i64 n, .slice A gs.length cap]] w (RowsRes w r1 r2) := by
  have h' := Option.some.inj h
  unfold OpeningF at h'
  split at h'
  · rename_i hv
    obtain ⟨rfl, rfl⟩ : crowdsN n.toNat (openN gs) = r1 ∧ (0 : Int) = r2 := by simpa using h'
    have hr := hv.1
    have := Opening_yes n.toNat (by omega) A cap gs w hC hcap (by rw [show ((n.toNat : Nat) : Int) = n by omega]; exact hv)
    rwa [show ((n.toNat : Nat) : Int) = n by omega] at this
  · rename_i hv
    obtain ⟨rfl, rfl⟩ : [] = r1 ∧ (1 : Int) = r2 := by simpa using h'
    exact Opening_no n A cap gs w hC hcap hv

/-! ### the greatest blocked groups -/
def blockedP (n : Nat) (gs : List (List Int)) (c : Nat) : Bool := !openN gs c && (List.range n).all fun h => c.testBit h || openN gs (c ||| 1 <<< h)
theorem shl1u_all : ∀ h : Fin 7, ∀ c : Fin 128, Go.bits .or .u64 ((c.val : Nat) : Int) (IntKind.u64.wrap (2 ^ h.val)) = ((c.val ||| 1 <<< h.val : Nat) : Int) := by decide +kernel
theorem keep2 {w W : World} {a1 a2 : Addr} {v1 v2 : Value} (h1 : w.cell? a1 = some v1) (h2 : w.cell? a2 = some v2) (hb : Below w.heap.size w W) : W.cell? a1 = some v1 ∧ W.cell? a2 = some v2 ∧ Below w.heap.size w W := ⟨pw_cell_below hb h1, pw_cell_below hb h2, hb⟩

set_option maxHeartbeats 2000000 in
theorem blocked1_calls (n : Nat) (hn : n ≤ 7) (A : Option Addr) (cap : Nat) (gs : List (List Int)) (hcap : gs.length ≤ cap) (hs : Smalls gs) (B1 : Nat) (w : World) (h1 : FamBox w B1 (n : Int) A cap gs) (c : Nat) (hc : c < 128) :
    Calls Try.prog 113 #[.int .u64 (c : Int), .pointer (some ⟨B1, 0, none⟩)] w fun e w' => e = .returned (.bool (blockedP n gs c)) ∧ Below w.heap.size w w' := by
  have H1 := opens_calls (n : Int) A cap gs c w h1.2.2 hcap hs hc
  have H2 := fun d W hb hd => opens_calls (n : Int) A cap gs d W (C_below h1.2.2 hb) hcap hs hd
  have c1 := h1.1
  have c2 := h1.2.1
  have C1 := Aside0.mk h1.1
  have C2 := Aside0.mk h1.2.1
  have hu := Try.underlying26
  clear h1
  cases hq : openN gs c with
  | true =>
    rw [hq] at H1
    have HQ := Aside0.mk hq
    clear hq
    go_enter Try.func113, Try.ntmps113
    go_wp2_with (go_at_call 61; refine H1.mono ?_; rintro e w' ⟨rfl, hb⟩)
    go_ret
    exact ⟨by unfold blockedP; rw [HQ.out]; rfl, hb⟩
  | false =>
    rw [hq] at H1
    have HQ := Aside0.mk hq
    clear hq
    go_enter Try.func113, Try.ntmps113
    go_wp2_with (go_at_call 61; refine H1.mono ?_; rintro e w1 ⟨rfl, hb⟩; have HB1 := Aside0.mk hb; have d1 := pw_cell_below hb C1.out; have d2 := pw_cell_below hb C2.out; clear hb)
    go_loopg [4, 10] n (fun gg _ v10 wr => ∃ h : Nat, h ≤ n ∧ n - h ≤ gg ∧ v10 = .int .i64 (h : Int) ∧ Aside0 (Below w.heap.size w wr) ∧ Aside0 (∀ j, j < h → (c.testBit j || openN gs (c ||| 1 <<< j)) = true))
    case atStart => exact ⟨0, Nat.zero_le _, by omega, rfl, HB1, ⟨fun j hj => absurd hj (Nat.not_lt_zero _)⟩⟩
    case round =>
      obtain ⟨h, hhn, hgg, rfl, HB2, HA⟩ := hrel
      by_cases hlt : h < n
      · have hltz : (h : Int) < (n : Int) := by omega
        have HH := fun W => has_calls c h hc (by omega) W
        cases ht : c.testBit h with
        | true =>
          rw [ht] at HH
          have HT := Aside0.mk ht
          clear ht
          go_wp2
          go_quiet (first | (go_at_call 67; exact Calls.quiet_of (HH _)))
          go_wp2
          go_roundg (n - (h + 1))
          case measure => omega
          case rel =>
            refine ⟨h + 1, by omega, by omega, by go_num, ⟨by repeat (first | exact HB2.out | apply pw_below_drewN)⟩, ⟨fun j hj => ?_⟩⟩
            by_cases e : j = h
            · subst e; rw [HT.out]; rfl
            · exact HA.out j (by omega)
        | false =>
          have hw := shl1u_all ⟨h, by omega⟩ ⟨c, hc⟩
          simp only at hw
          have hd128 := or_lt hc (show h < 7 by omega)
          rw [ht] at HH
          have HT := Aside0.mk ht
          clear ht
          have hh0 : (0 : Int) ≤ (h : Int) := Int.natCast_nonneg _
          have hcall2 := fun W hb => H2 (c ||| 1 <<< h) W hb hd128
          generalize hd : c ||| 1 <<< h = d at *
          have HD := Aside0.mk hd
          clear hd
          have hB2 := HB2.out
          cases hq2 : openN gs d with
          | true =>
            rw [hq2] at hcall2
            have HQ2 := Aside0.mk hq2
            clear hq2
            go_wp2
            go_region_held3 (fun W => W.cell? ⟨B1, 0, none⟩ = some (.int .i64 (n : Int)) ∧ W.cell? ⟨B1, 1, none⟩ = some (.slice A gs.length cap) ∧ Below w.heap.size w W) ((refine keep2 C1.out C2.out ?_; repeat (first | assumption | apply below_drew | apply pw_below_drewN))) (first | (go_at_call 67; refine (HH _).mono ?_; rintro e w' ⟨rfl, q, rfl⟩) | (go_at_call 61; refine (hcall2 _ (pw_below_drewN hB2 _)).mono ?_; rintro e w9 ⟨rfl, hb9⟩; have HB9 := below_then (pw_below_drewN hB2 _) (pw_below_drewN hB2 _).size hb9))
            go_wp2
            go_roundg (n - (h + 1))
            case measure => omega
            case rel =>
              refine ⟨h + 1, by omega, by omega, by go_num, ⟨HB9⟩, ⟨fun j hj => ?_⟩⟩
              by_cases e : j = h
              · subst e; rw [HT.out, HD.out, HQ2.out]; rfl
              · exact HA.out j (by omega)
          | false =>
            rw [hq2] at hcall2
            have HQ2 := Aside0.mk hq2
            clear hq2
            go_wp2
            go_region_held3 (fun W => W.cell? ⟨B1, 0, none⟩ = some (.int .i64 (n : Int)) ∧ W.cell? ⟨B1, 1, none⟩ = some (.slice A gs.length cap) ∧ Below w.heap.size w W) ((refine keep2 C1.out C2.out ?_; repeat (first | assumption | apply below_drew | apply pw_below_drewN))) (first | (go_at_call 67; refine (HH _).mono ?_; rintro e w' ⟨rfl, q, rfl⟩) | (go_at_call 61; refine (hcall2 _ (pw_below_drewN hB2 _)).mono ?_; rintro e w9 ⟨rfl, hb9⟩; have HB9 := below_then (pw_below_drewN hB2 _) (pw_below_drewN hB2 _).size hb9))
            go_wp2
            go_ret
            refine ⟨?_, HB9⟩
            have hf : ((List.range n).all fun h => c.testBit h || openN gs (c ||| 1 <<< h)) = false := by
              rw [List.all_eq_false]
              exact ⟨h, List.mem_range.2 hlt, by rw [HT.out, HD.out, HQ2.out]; simp⟩
            unfold blockedP
            rw [hf, Bool.and_false]
            rfl
      · have hltz : ¬ (h : Int) < (n : Int) := by omega
        obtain rfl : h = n := by omega
        go_wp2
        go_ret
        refine ⟨?_, HB2.out⟩
        have hf : ((List.range h).all fun j => c.testBit j || openN gs (c ||| 1 <<< j)) = true := by
          rw [List.all_eq_true]
          exact fun j hj => HA.out j (List.mem_range.1 hj)
        unfold blockedP
        rw [hf, HQ.out]
        rfl

set_option maxHeartbeats 2000000 in
theorem blocked_calls (n : Nat) (hn : n ≤ 7) (A : Option Addr) (cap : Nat) (gs : List (List Int)) (w : World) (hC : dR.C w A gs.length gs) (hcap : gs.length ≤ cap) (hs : Smalls gs) :
    Calls Try.prog 63 #[.agg #[.int .i64 (n : Int), .slice A gs.length cap]] w fun e w' => ∃ v, e = .returned v ∧ Kd.S dR 28 w' w.heap.size (fun _ => True) v (crowdsN n (blockedP n gs)) ∧ Below w.heap.size w w' := by
  have eg : ∀ args w, (callFunc 113 args).run Try.prog w = .ok (.enter 113 args) w := enters_of Try.func113 (by kernel_rfl) rfl
  have hu := Try.underlying26
  have h7 : 2 ^ n ≤ 128 := by have := Nat.pow_le_pow_right (n := 2) (by omega) hn; simpa using this
  have hbx := FamBox.new w (n : Int) A cap gs 26 hC
  have HCR := fun W (h : FamBox W w.heap.size (n : Int) A cap gs) => crowds_calls n hn 113 #[] #[.pointer (some ⟨w.heap.size, 0, none⟩)] eg (blockedP n gs) W (fun W' c hb hc => blocked1_calls n hn A cap gs hcap hs w.heap.size W' (h.later hb) c (by omega))
  have HBX := Aside0.mk hbx
  clear hC hbx h7 hs
  generalize hF : crowdsN n (blockedP n gs) = F at *
  have HFF := Aside0.mk hF
  clear hF
  go_enter Try.func63, Try.ntmps63
  go_wp2_with (go_at_call 64; refine (HCR _ HBX.out).mono ?_; rintro e w2 ⟨v2, rfl, hs2, hb2⟩; have HS := Aside0.mk hs2; have HB2 := Aside0.mk hb2; clear hs2 hb2)
  go_ret
  have h1 : Below w.heap.size w (w.alloc (.cells #[.int .i64 (n : Int), .slice A gs.length cap] 26)) := below_alloc (Below.refl _ _) _
  exact ⟨_, rfl, S_lower HS.out h1.size, below_then h1 h1.size HB2.out⟩

set_option maxHeartbeats 2000000 in
theorem Blocked_no (n : Int) (A : Option Addr) (cap : Nat) (gs : List (List Int)) (w : World) (hC : dR.C w A gs.length gs) (hcap : gs.length ≤ cap) (hv : ¬ ValidF n gs) :
    Calls Try.prog 15 #[.agg #[.int .i64 n, .slice A gs.length cap]] w (RowsRes w [] 1) := by
  have hu := Try.underlying26
  have HV := fun W h => valid_calls n A cap gs W h hcap
  rw [decide_eq_false hv] at HV
  have HC := Aside0.mk hC
  clear hC hv
  go_enter Try.func15, Try.ntmps15
  go_wp2_with (go_at_call 59; refine (HV _ (Kd.C_alloc HC.out _)).mono ?_; rintro e w1 ⟨rfl, hb1⟩; have HB := Aside0.mk hb1; clear hb1)
  refine bodyPost_ret (v := .tuple #[.slice none 0 0, .int .i64 1]) (by simp [results, Try.results15, go_sem]) rfl ⟨_, rfl, S_nil _ _ _ _ _, below_then (below_alloc (Below.refl _ _) _) (by simp) HB.out⟩

set_option maxHeartbeats 2000000 in
theorem Blocked_yes (n : Nat) (hn : n ≤ 7) (A : Option Addr) (cap : Nat) (gs : List (List Int)) (w : World) (hC : dR.C w A gs.length gs) (hcap : gs.length ≤ cap) (hv : ValidF (n : Int) gs) :
    Calls Try.prog 15 #[.agg #[.int .i64 (n : Int), .slice A gs.length cap]] w (RowsRes w (crowdsN n (blockedP n gs)) 0) := by
  have hu := Try.underlying26
  have HV := fun W h => valid_calls (n : Int) A cap gs W h hcap
  rw [decide_eq_true hv] at HV
  have HBL := fun W h => blocked_calls n hn A cap gs W h hcap (smalls_of hv)
  have HBX := Aside0.mk (FamBox.new w (n : Int) A cap gs 26 hC)
  have HC := Aside0.mk hC
  clear hC hv
  generalize hF : crowdsN n (blockedP n gs) = F at *
  clear hF
  go_enter Try.func15, Try.ntmps15
  go_wp2_with (first | (go_at_call 59; refine (HV _ (Kd.C_alloc HC.out _)).mono ?_; rintro e w1 ⟨rfl, hb1⟩; have HX := Aside0.mk (HBX.out.later hb1); have cf0 := HX.out.1; have cf1 := HX.out.2.1; have HB := Aside0.mk hb1; clear hb1) | (go_at_call 63; refine (HBL _ HX.out.2.2).mono ?_; rintro e w2 ⟨v2, rfl, hs2, hb2⟩; have HS := Aside0.mk hs2; have HB2 := Aside0.mk hb2; clear hs2 hb2))
  have h1 : Below w.heap.size w w1 := below_then (below_alloc (Below.refl _ _) _) (by simp) HB.out
  refine bodyPost_ret (v := .tuple #[v2, .int .i64 0]) (by simp [results, Try.results15, go_sem]) rfl ⟨_, rfl, S_lower HS.out h1.size, below_then h1 h1.size HB2.out⟩

def BlockedF (n : Int) (gs : List (List Int)) : List (List Int) × Int := if ValidF n gs then (crowdsN n.toNat (blockedP n.toNat gs), 0) else ([], 1)
theorem BlockedF_calls (n : Int) (A : Option Addr) (cap : Nat) (gs : List (List Int)) (r1 : List (List Int)) (r2 : Int) (w : World) (hC : dR.C w A gs.length gs) (hcap : gs.length ≤ cap) (h : some (BlockedF n gs) = some (r1, r2)) :
    Calls Try.prog 15 #[.agg #[.int .i64 n, .slice A gs.length cap]] w (RowsRes w r1 r2) := by
  have h' := Option.some.inj h
  unfold BlockedF at h'
  split at h'
  · rename_i hv
    obtain ⟨rfl, rfl⟩ : crowdsN n.toNat (blockedP n.toNat gs) = r1 ∧ (0 : Int) = r2 := by simpa using h'
    have hr := hv.1
    have := Blocked_yes n.toNat (by omega) A cap gs w hC hcap (by rw [show ((n.toNat : Nat) : Int) = n by omega]; exact hv)
    rwa [show ((n.toNat : Nat) : Int) = n by omega] at this
  · rename_i hv
    obtain ⟨rfl, rfl⟩ : [] = r1 ∧ (1 : Int) = r2 := by simpa using h'
    exact Blocked_no n A cap gs w hC hcap hv

end Go.Proofs.Ytmanloolbpmgiaa.Opening
