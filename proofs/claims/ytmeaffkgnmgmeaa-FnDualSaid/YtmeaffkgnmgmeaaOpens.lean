/- Contract of Family.opens: whether a set of holders has all holders of one of the groups. -/
import Derived.Test.YtmeaffkgnmgmeaaGb
import Derived.Test.YtmeaffkgnmgmeaaBits
import Derived.Test.YtmeaffkgnmgmeaaIdx
namespace Go.Proofs.Ytmeaffkgnmgmeaa.Opens
open Go.RowKit Go.Proofs.YtmeaffkgnmgmeaaW.PrintWords Go.Proofs.YtmeaffkgnmgmeaaW.PrintLast Go.Proofs.YtmeaffkgnmgmeaaW.PrintMore Go.Proofs.Ytmeaffkgnmgmeaa.G Go.Proofs.Ytmeaffkgnmgmeaa.Fam Go.Proofs.Ytmeaffkgnmgmeaa.Bits Go.Proofs.Ytmeaffkgnmgmeaa.Idx
set_option linter.unusedVariables false
set_option linter.unusedSimpArgs false

/-- Groups of at most seven holders. -/
def Small (g : List Int) : Prop := ∀ x ∈ g, 0 ≤ x ∧ x < 7
/-- Groups that are all small and short. -/
def Smalls (gs : List (List Int)) : Prop := ∀ g ∈ gs, Small g

theorem crowdOf_calls (A : Option Addr) (c : Nat) (g : List Int) (w : World) (hC : Kd.C (Kd.int .i64) w A g.length g) (hc : g.length ≤ c) (hg : Small g) :
    Calls Try.prog 76 #[.slice A g.length c] w fun e w' => e = .returned (.int .u64 ((bitsN g : Nat) : Int)) ∧ ∃ n, w' = w.drewN n := by
  exact (impl_crowdOf.calls (g.length + 1) A c g _ w hC hc (crowdOf_is g _ hC.2.1 hg (by omega))).mono fun e w' ⟨he, hd⟩ => ⟨he, hd.out⟩

set_option maxHeartbeats 1000000 in
theorem closure (B : Nat) (c : Nat) (hc : c < 128) (A : Option Addr) (cap : Nat) (g : List Int) (W : World) (hB : W.cell? ⟨B, 0, none⟩ = some (.int .u64 (c : Int))) (hg : Small g) (hC : Kd.C (Kd.int .i64) W A g.length g) (hcap : g.length ≤ cap) :
    Calls Try.prog 110 #[.slice A g.length cap, .pointer (some ⟨B, 0, none⟩)] W fun e w' => e = .returned (.bool (decide (c &&& bitsN g = bitsN g))) ∧ Below W.heap.size W w' := by
  have hb : bitsN g < 128 := by have := bitsN_lt (n := 7) (g := g) hg; simpa using this
  have H1 := fun n => crowdOf_calls A cap g (W.drewN n) (Kd.C_drewN hC n) hcap hg
  have H2 := fun W => impl_crowd_contains.calls (c : Int) ((bitsN g : Nat) : Int) _ W (contains_is hc hb)
  have HC := Aside0.mk hC
  clear hC hb
  generalize decide (c &&& bitsN g = bitsN g) = r at H2 ⊢
  generalize ((bitsN g : Nat) : Int) = b at H1 H2
  go_enter Try.func110, Try.ntmps110
  go_wp2
  go_quiet (first | (go_at_call 76; exact Calls.quiet_of (H1 _)) | (go_at_call 105; exact Calls.quiet_of ((H2 _).mono fun e w' ⟨he, hd⟩ => ⟨he, hd.out⟩)))
  go_wp2
  go_ret
  exact ⟨rfl, by repeat (first | exact Below.refl _ _ | apply pw_below_drewN)⟩

/-- The predicate that opens hands over. -/
theorem pred (B : Nat) (c : Nat) (hc : c < 128) (w : World) (hB : w.cell? ⟨B, 0, none⟩ = some (.int .u64 (c : Int))) :
    PredB Try.prog 110 #[.pointer (some ⟨B, 0, none⟩)] (Kd.slice 2 (Kd.int .i64)) Small (fun g => decide (c &&& bitsN g = bitsN g)) w := by
  intro W g v hb hg hK
  obtain ⟨A, cap, e, hcap, hC⟩ := hK
  obtain rfl : v = .slice A g.length cap := by simpa using e
  exact closure B c hc A cap g W (pw_cell_below hb hB) hg hC hcap

set_option maxHeartbeats 1000000 in
theorem opens_calls (n : Int) (A : Option Addr) (cap : Nat) (gs : List (List Int)) (c : Nat) (w : World) (hC : Kd.C (Kd.slice 2 (Kd.int .i64)) w A gs.length gs) (hcap : gs.length ≤ cap) (hg : Smalls gs) (hc : c < 128) :
    Calls Try.prog 73 #[.agg #[.int .i64 n, .slice A gs.length cap], .int .u64 (c : Int)] w fun e w' => e = .returned (.bool (openN gs c)) ∧ Below w.heap.size w w' := by
  have eg : ∀ args w, (callFunc 110 args).run Try.prog w = .ok (.enter 110 args) w := enters_of Try.func110 (by kernel_rfl) rfl
  have hu := Try.underlying27
  have HC := Aside0.mk hC
  clear hC
  go_enter Try.func73, Try.ntmps73
  go_wp2_with (go_at_call 83; refine (contains_rows (d := Kd.slice 2 (Kd.int .i64)) rfl 110 _ eg (fun g => decide (c &&& bitsN g = bitsN g)) Small A cap gs _ ?c1 hg ?c2).mono ?_; (case c1 => exact Kd.C_alloc (Kd.C_alloc HC.out _) _); (case c2 => exact pred _ c hc _ (by simp)); rintro e w' ⟨rfl, hb⟩)
  go_ret
  exact ⟨rfl, below_then (below_alloc (below_alloc (Below.refl _ _) _) _) (by simp; omega) hb⟩

instance (gs : List (List Int)) : Decidable (Smalls gs) := by unfold Smalls Small; exact inferInstance
def opensF (gs : List (List Int)) (c : Int) : Option Bool := if Smalls gs ∧ 0 ≤ c ∧ c < 128 then some (openN gs c.toNat) else none
theorem opensF_calls (n : Int) (A : Option Addr) (cap : Nat) (gs : List (List Int)) (c : Int) (r : Bool) (w : World) (hC : Kd.C (Kd.slice 2 (Kd.int .i64)) w A gs.length gs) (hcap : gs.length ≤ cap) (h : opensF gs c = some r) :
    Calls Try.prog 73 #[.agg #[.int .i64 n, .slice A gs.length cap], .int .u64 c] w fun e w' => e = .returned (.bool r) ∧ Below w.heap.size w w' := by
  unfold opensF at h
  split at h
  · rename_i hh
    obtain rfl := Option.some.inj h
    have := opens_calls n A cap gs c.toNat w hC hcap hh.1 (by omega)
    rwa [show ((c.toNat : Nat) : Int) = c by omega] at this
  · cases h

end Go.Proofs.Ytmeaffkgnmgmeaa.Opens
