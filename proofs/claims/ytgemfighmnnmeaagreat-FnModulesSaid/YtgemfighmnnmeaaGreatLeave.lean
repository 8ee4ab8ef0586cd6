/- Contracts of leaveOut, WithoutHolder and TrustHolder. -/
import Derived.Test.YtgemfighmnnmeaaGreatCrowds
namespace Go.Proofs.YtgemfighmnnmeaaGreat.Leave
open Go.RowKit Go.Proofs.YtgemfighmnnmeaaGreatW.PrintWords Go.Proofs.YtgemfighmnnmeaaGreatW.PrintWords.Kd Go.Proofs.YtgemfighmnnmeaaGreatW.PrintLast Go.Proofs.YtgemfighmnnmeaaGreatW.PrintMore Go.Proofs.YtgemfighmnnmeaaGreat.G Go.Proofs.YtgemfighmnnmeaaGreat.Fam Go.Proofs.YtgemfighmnnmeaaGreat.Bits Go.Proofs.YtgemfighmnnmeaaGreat.Loops Go.Proofs.YtgemfighmnnmeaaGreat.Valid Go.Proofs.YtgemfighmnnmeaaGreat.Opens Go.Proofs.YtgemfighmnnmeaaGreat.Idx Go.Proofs.YtgemfighmnnmeaaGreat.Sorting Go.Proofs.YtgemfighmnnmeaaGreat.Crowds Go.Proofs.YtgemfighmnnmeaaGreat.FamOf Go.Proofs.YtgemfighmnnmeaaGreat.Ops
set_option linter.unusedVariables false
set_option linter.unusedSimpArgs false

/-- A set with room made for holder h. -/
def wideN (c h : Nat) : Nat := c % 2 ^ h + c / 2 ^ h * 2 ^ (h + 1)
theorem wide_all : ∀ c : Fin 64, ∀ h : Fin 7, impl_crowd_widened.f ((c.val : Nat) : Int) ((h.val : Nat) : Int) = some ((wideN c.val h.val : Nat) : Int) := by decide +kernel
theorem wide_lt_all : ∀ n : Fin 7, ∀ c : Fin 64, ∀ h : Fin 7, c.val < 2 ^ n.val → h.val ≤ n.val → wideN c.val h.val < 2 ^ (n.val + 1) ∧ wideN c.val h.val ||| 1 <<< h.val < 2 ^ (n.val + 1) := by decide +kernel
theorem wide_lt {n c h : Nat} (hn : n ≤ 6) (hc : c < 2 ^ n) (hh : h ≤ n) : wideN c h < 2 ^ (n + 1) ∧ wideN c h ||| 1 <<< h < 2 ^ (n + 1) := by
 have h6 : 2 ^ n ≤ 64 := by have := Nat.pow_le_pow_right (n := 2) (by omega) hn; simpa using this
 exact wide_lt_all ⟨n, by omega⟩ ⟨c, by omega⟩ ⟨h, by omega⟩ hc hh
theorem widened_calls (c h : Nat) (hc : c < 64) (hh : h < 7) (W : World) : Calls Tryz.prog 36 #[.int .u64 (c : Int), .int .i64 (h : Int)] W fun e w' => e = .returned (.int .u64 ((wideN c h : Nat) : Int)) ∧ ∃ q, w' = W.drewN q :=
 (impl_crowd_widened.calls (c : Int) (h : Int) _ W (wide_all ⟨c, hc⟩ ⟨h, hh⟩)).mono fun e w' ⟨he, hd⟩ => ⟨he, hd.out⟩

/-- Without h (t = 0), or with it trusted (t = 1). -/
def leaveP (gs : List (List Int)) (h t c : Nat) : Bool := openN gs (wideN c h ||| t <<< h)

theorem keep4 {w W : World} {a1 a2 a3 a4 : Addr} {v1 v2 v3 v4 : Value} (h1 : w.cell? a1 = some v1) (h2 : w.cell? a2 = some v2) (h3 : w.cell? a3 = some v3) (h4 : w.cell? a4 = some v4) (hb : Below w.heap.size w W) :
  W.cell? a1 = some v1 ∧ W.cell? a2 = some v2 ∧ W.cell? a3 = some v3 ∧ W.cell? a4 = some v4 ∧ Below w.heap.size w W := ⟨pw_cell_below hb h1, pw_cell_below hb h2, pw_cell_below hb h3, pw_cell_below hb h4, hb⟩


/-- The boxes of leaveOut's parameters and its result's variable. -/
def leaveW (w : World) (n : Int) (A : Option Addr) (cap : Nat) (gs : List (List Int)) (h t : Int) : World :=
 (((w.alloc (.cells #[.int .i64 n, .slice A gs.length cap] 26)).alloc (.cells #[.int .i64 h] 2)).alloc (.cells #[.int .u64 t] 47)).alloc (.cells #[.int .i64 0, .slice none 0 0] 26)
theorem leaveW_size (w : World) (n : Int) (A : Option Addr) (cap : Nat) (gs : List (List Int)) (h t : Int) : (leaveW w n A cap gs h t).heap.size = w.heap.size + 1 + 1 + 1 + 1 := by simp [leaveW]
theorem leaveW_boxes (w : World) (n : Int) (A : Option Addr) (cap : Nat) (gs : List (List Int)) (h t : Int) (hC : dR.C w A gs.length gs) (W : World) (hb : Below (leaveW w n A cap gs h t).heap.size (leaveW w n A cap gs h t) W) :
  FamBox W w.heap.size n A cap gs ∧ W.cell? ⟨w.heap.size + 1, 0, none⟩ = some (.int .i64 h) ∧ W.cell? ⟨w.heap.size + 1 + 1, 0, none⟩ = some (.int .u64 t) ∧ W.heap[w.heap.size + 1 + 1 + 1]? = some (.cells #[.int .i64 0, .slice none 0 0] 26 (0, 0)) := by
 refine ⟨((FamBox.new w n A cap gs 26 hC).later (by unfold leaveW at *; exact below_alloc (below_alloc (below_alloc (Below.refl _ _) _) _) _)).later hb, ?_, ?_, ?_⟩
 ·
  exact pw_cell_below hb ((blk_cell (blk_alloc (blk_alloc (blk_at (by simp)) _) _) 0).trans rfl)
 ·
  exact pw_cell_below hb ((blk_cell (blk_alloc (blk_at (by simp)) _) 0).trans rfl)
 ·
  exact blk_below (blk_at (by simp)) hb
theorem leaveW_below (w : World) (n : Int) (A : Option Addr) (cap : Nat) (gs : List (List Int)) (h t : Int) : Below w.heap.size w (leaveW w n A cap gs h t) := below_alloc (below_alloc (below_alloc (below_alloc (Below.refl _ _) _) _) _) _





def LeaveF (n : Int) (gs : List (List Int)) (h : Int) (t : Nat) : Int × List (List Int) × Int :=
 if ValidF n gs then (if 0 ≤ h ∧ h ≤ n - 1 then (if n = 1 then (0, [], 4) else (n - 1, famN (n - 1).toNat (leaveP gs h.toNat t), 0)) else (0, [], 2)) else (0, [], 1)



end Go.Proofs.YtgemfighmnnmeaaGreat.Leave
