/- Contract of OpeningGroups. -/
import Derived.Test.YtmanloolbpmgiaaCrowds
namespace Go.Proofs.Ytmanloolbpmgiaa.Opening
open Go.RowKit Go.Proofs.YtmanloolbpmgiaaW.PrintWords Go.Proofs.YtmanloolbpmgiaaW.PrintWords.Kd Go.Proofs.YtmanloolbpmgiaaW.PrintLast Go.Proofs.YtmanloolbpmgiaaW.PrintMore Go.Proofs.Ytmanloolbpmgiaa.G Go.Proofs.Ytmanloolbpmgiaa.Fam Go.Proofs.Ytmanloolbpmgiaa.Bits Go.Proofs.Ytmanloolbpmgiaa.Loops Go.Proofs.Ytmanloolbpmgiaa.Valid Go.Proofs.Ytmanloolbpmgiaa.Opens Go.Proofs.Ytmanloolbpmgiaa.Idx Go.Proofs.Ytmanloolbpmgiaa.Sorting Go.Proofs.Ytmanloolbpmgiaa.Crowds Go.Proofs.Ytmanloolbpmgiaa.FamOf Go.Proofs.Ytmanloolbpmgiaa.Ops
set_option linter.unusedVariables false
set_option linter.unusedSimpArgs false

/-- Rows and a code, as they are handed back. -/
def RowsRes (w : World) (gs : List (List Int)) (code : Int) (e : Ending) (w' : World) : Prop :=
  ∃ v, e = .returned (.tuple #[v, .int .i64 code]) ∧ Kd.S dR 28 w' w.heap.size (fun _ => True) v gs ∧ Below w.heap.size w w'

set_option maxHeartbeats 2000000 in
theorem Opening_no (n : Int) (A : Option Addr) (cap : Nat) (gs : List (List Int)) (w : World) (hC : dR.C w A gs.length gs) (hcap : gs.length ≤ cap) (hv : ¬ ValidF n gs) :
    Calls Try.prog 16 #[.agg #[.int .i64 n, .slice A gs.length cap]] w (RowsRes w [] 1) := by
  have hu := Try.underlying26
  have HV := fun W h => valid_calls n A cap gs W h hcap
  rw [decide_eq_false hv] at HV
  have HC := Aside0.mk hC
  clear hC hv
  go_enter Try.func16, Try.ntmps16
  go_wp2_with (go_at_call 59; refine (HV _ (Kd.C_alloc HC.out _)).mono ?_; rintro e w1 ⟨rfl, hb1⟩; have HB := Aside0.mk hb1; clear hb1)
  refine bodyPost_ret (v := .tuple #[.slice none 0 0, .int .i64 1]) (by simp [results, Try.results16, go_sem]) rfl ⟨_, rfl, S_nil _ _ _ _ _, below_then (below_alloc (Below.refl _ _) _) (by simp) HB.out⟩

set_option maxHeartbeats 2000000 in
theorem Opening_yes (n : Nat) (hn : n ≤ 7) (A : Option Addr) (cap : Nat) (gs : List (List Int)) (w : World) (hC : dR.C w A gs.length gs) (hcap : gs.length ≤ cap) (hv : ValidF (n : Int) gs) :
    Calls Try.prog 16 #[.agg #[.int .i64 (n : Int), .slice A gs.length cap]] w (RowsRes w (crowdsN n (openN gs)) 0) := by
  have eg : ∀ args w, (callFunc 61 args).run Try.prog w = .ok (.enter 61 args) w := enters_of Try.func61 (by kernel_rfl) rfl
  have hu := Try.underlying26
  have h7 : 2 ^ n ≤ 128 := by have := Nat.pow_le_pow_right (n := 2) (by omega) hn; simpa using this
  have HV := fun W h => valid_calls (n : Int) A cap gs W h hcap
  rw [decide_eq_true hv] at HV
  have HCR := fun W (h : dR.C W A gs.length gs) => crowds_calls n hn 61 #[.agg #[.int .i64 (n : Int), .slice A gs.length cap]] #[] eg (openN gs) W (fun W' c hb hc => opens_calls (n : Int) A cap gs c W' (C_below h hb) hcap (smalls_of hv) (by omega))
  have HBX := Aside0.mk (FamBox.new w (n : Int) A cap gs 26 hC)
  have HC := Aside0.mk hC
  clear hC hv h7
  generalize hF : crowdsN n (openN gs) = F at *
  have HFF := Aside0.mk hF
  clear hF
  go_enter Try.func16, Try.ntmps16
  go_wp2_with (first | (go_at_call 59; refine (HV _ (Kd.C_alloc HC.out _)).mono ?_; rintro e w1 ⟨rfl, hb1⟩; have HX := Aside0.mk (HBX.out.later hb1); have cf0 := HX.out.1; have cf1 := HX.out.2.1; have HB := Aside0.mk hb1; clear hb1) | (go_at_call 64; refine (HCR _ HX.out.2.2).mono ?_; rintro e w2 ⟨v2, rfl, hs2, hb2⟩; have HS := Aside0.mk hs2; have HB2 := Aside0.mk hb2; clear hs2 hb2))
  have h1 : Below w.heap.size w w1 := below_then (below_alloc (Below.refl _ _) _) (by simp) HB.out
  refine bodyPost_ret (v := .tuple #[v2, .int .i64 0]) (by simp [results, Try.results16, go_sem]) rfl ⟨_, rfl, S_lower HS.out h1.size, below_then h1 h1.size HB2.out⟩

def OpeningF (n : Int) (gs : List (List Int)) : List (List Int) × Int := if ValidF n gs then (crowdsN n.toNat (openN gs), 0) else ([], 1)
theorem OpeningF_calls (n : Int) (A : Option Addr) (cap : Nat) (gs : List (List Int)) (r1 : List (List Int)) (r2 : Int) (w : World) (hC : dR.C w A gs.length gs) (hcap : gs.length ≤ cap) (h : some (OpeningF n gs) = some (r1, r2)) :
    Calls Try.prog 16 #[.agg #[.int .i64 n, .slice A gs.length cap]] w (RowsRes w r1 r2) := by
  have h' := Option.some.inj h
  unfold OpeningF at h'
  split at h'
  · rename_i hv
    obtain ⟨rfl, rfl⟩ : crowdsN n.toNat (openN gs) = r1 ∧ (0 : Int) = r2 := by simpa using h'
    have hr := hv.1
    have := Opening_yes n.toNat (by omega) A cap gs w hC hcap (by rw [show ((n.toNat : Nat) : Int) = n by omega]; exact hv)
    rwa [show ((n.toNat : Nat) : Int) = n by omega] at this
  · rename_i hv
    obtain ⟨rfl, rfl⟩ : [] = r1 ∧ (1 : Int) = r2 := by simpa using h'
    exact Opening_no n A cap gs w hC hcap hv

end Go.Proofs.Ytmanloolbpmgiaa.Opening
