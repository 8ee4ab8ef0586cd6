/- Contracts of the exact laws' helpers over tables, rows of tables and rows of numbers; words for what they make. -/
import Derived.Test.YtdahdeohmbadhaaExT
import Derived.Test.YtdahdeohmbadhaaGx5
import Derived.Test.YtdahdeohmbadhaaGx4
import Derived.Test.YtdahdeohmbadhaaGx4
import Derived.Test.YtdahdeohmbadhaaGx5
import Derived.Deep.RegionHeld3
import Derived.BigQuiet
import Derived.Outline
namespace Go.Proofs.Ytdahdeohmbadhaa.ExTC
open Go.RowKit Go.Lib Go.Proofs Go.Proofs.YtdahdeohmbadhaaW.PrintWords Go.Proofs.YtdahdeohmbadhaaW.PrintWords.Kd Go.Proofs.YtdahdeohmbadhaaW.PrintLast Go.Proofs.YtdahdeohmbadhaaW.PrintMore Go.Proofs.Ytdahdeohmbadhaa.G Go.Proofs.Ytdahdeohmbadhaa.Loops Go.Proofs.Ytdahdeohmbadhaa.Mark Go.Proofs.Ytdahdeohmbadhaa.MarkT Go.Proofs.Ytdahdeohmbadhaa.ExF Go.Proofs.Ytdahdeohmbadhaa.ExT
set_option linter.unusedVariables false
set_option linter.unusedSimpArgs false

/-! ### a row of numbers -/
theorem toL_calls (A : Option Addr) (c : Nat) (l : List Int) (hl : l.length ≤ 1048576) (w : World) (hC : Kd.C (Kd.int .i64) w A l.length l) (hc : l.length ≤ c) :
    Calls Try.prog 17 #[.slice A l.length c] w fun e w' => ∃ v, e = .returned v ∧ Kd.R (Kd.int .i64) 2 w' w.heap.size (fun _ => True) v l ∧ Below w.heap.size w w' :=
  laws_toInt64S.calls (l.length + 1) A c l l w hC hc (toS_is l _ hl (by omega))
theorem eqL_calls (A A' : Option Addr) (c c' : Nat) (a b : List Int) (w : World) (hC : Kd.C (Kd.int .i64) w A a.length a) (hc : a.length ≤ c) (hC' : Kd.C (Kd.int .i64) w A' b.length b) (hc' : b.length ≤ c') :
    Calls Try.prog 21 #[.slice A a.length c, .slice A' b.length c'] w fun e w' => e = .returned (.bool (decide (a = b))) ∧ Below w.heap.size w w' :=
  (laws_eqInt64S.calls (a.length + 1) A c a A' c' b _ w hC hc hC' hc' (eqS_is a b _ hC.2.1 (by omega))).mono fun e w' ⟨he, hd⟩ => ⟨he, by
    obtain ⟨q, rfl⟩ := hd.out
    exact pw_below_drewN (Below.refl _ _) q⟩
/-- A row that was made: its block is numbered from lo on, below hi. -/
structure ItmL (W : World) (b : Nat) (v : Value) (l : List Int) (lo hi : Nat) : Prop where
  s : Kd.R (Kd.int .i64) 2 W b (fun k => lo ≤ k ∧ k < hi) v l
  fit : hi ≤ W.heap.size
/-- Rows of a table that were made. -/
structure ItmS (W : World) (b : Nat) (v : Value) (rs : List Row) (lo hi : Nat) : Prop where
  s : Kd.S dW 87 W b (fun k => lo ≤ k ∧ k < hi) v rs
  fit : hi ≤ W.heap.size
section
variable {W W' : World} {b lo hi : Nat} {v : Value} {l : List Int} {rs : List Row} {P : Nat → Prop}
theorem ItmL.new' {W0 : World} {lo : Nat} (h : Kd.R (Kd.int .i64) 2 W W0.heap.size (fun _ => True) v l) (hlo : lo = W0.heap.size) (hb : b ≤ lo) : ItmL W b v l lo W.heap.size := by
  subst hlo; exact ⟨R_mono (R_lower (R_bound h) hb) (fun k hk => ⟨hk.2.1, hk.2.2.1⟩), Nat.le_refl _⟩
theorem ItmL.kept (h : ItmL W b v l lo hi) (hk : Kept W W' P) (ha : ∀ k, P k → ¬ (lo ≤ k ∧ k < hi)) : ItmL W' b v l lo hi := ⟨R_kept h.s hk (fun k hk hp => ha k hp hk), Nat.le_trans h.fit hk.1⟩
theorem ItmL.below (h : ItmL W b v l lo hi) (hb : Below W.heap.size W W') : ItmL W' b v l lo hi := h.kept (Kept.of_below hb (fun _ => False)) (fun _ hk => hk.elim)
theorem ItmL.alloc (h : ItmL W b v l lo hi) (o : Obj) : ItmL (W.alloc o) b v l lo hi := h.below (below_alloc (Below.refl _ _) o)
theorem ItmL.C {A : Option Addr} {n c : Nat} (h : ItmL W b (.slice A n c) l lo hi) : n = l.length ∧ n ≤ c ∧ Kd.C (Kd.int .i64) W A l.length l := R_reads' h.s
theorem ItmS.new' {W0 : World} {lo : Nat} (h : Kd.S dW 87 W W0.heap.size (fun _ => True) v rs) (hlo : lo = W0.heap.size) (hb : b ≤ lo) : ItmS W b v rs lo W.heap.size := by
  subst hlo; exact ⟨S_mono (S_lower (S_bound h) hb) (fun k hk => ⟨hk.2.1, hk.2.2.1⟩), Nat.le_refl _⟩
theorem ItmS.kept (h : ItmS W b v rs lo hi) (hk : Kept W W' P) (ha : ∀ k, P k → ¬ (lo ≤ k ∧ k < hi)) : ItmS W' b v rs lo hi := ⟨S_kept h.s hk (fun k hk hp => ha k hp hk), Nat.le_trans h.fit hk.1⟩
theorem ItmS.below (h : ItmS W b v rs lo hi) (hb : Below W.heap.size W W') : ItmS W' b v rs lo hi := h.kept (Kept.of_below hb (fun _ => False)) (fun _ hk => hk.elim)
theorem ItmS.alloc (h : ItmS W b v rs lo hi) (o : Obj) : ItmS (W.alloc o) b v rs lo hi := h.below (below_alloc (Below.refl _ _) o)
theorem ItmS.C {A : Option Addr} {n c : Nat} (h : ItmS W b (.slice A n c) rs lo hi) : n = rs.length ∧ n ≤ c ∧ Kd.C dW W A rs.length rs := S_reads' h.s
end

/-! ### rows of a table -/
theorem lens_L {w : World} {A : Option Addr} {rs : List LRow} (h : Kd.C lW w A rs.length rs) : rs.length ≤ 9223372036854775807 ∧ ∀ g ∈ rs, g.f1.length ≤ 9223372036854775807 := ⟨h.2.1, fun g hg => by
  obtain ⟨i, hi, rfl⟩ := List.getElem_of_mem hg
  obtain ⟨_, _, _, _, _, _, _, hc⟩ := at_T83 h (i : Int) (by omega) (by omega)
  rw [rdA, getA hi] at hc
  exact hc.2.1⟩
theorem lens_R {w : World} {A : Option Addr} {rs : List Row} (h : Kd.C dW w A rs.length rs) : rs.length ≤ 9223372036854775807 ∧ ∀ g ∈ rs, g.f1.length ≤ 9223372036854775807 := ⟨h.2.1, fun g hg => by
  obtain ⟨i, hi, rfl⟩ := List.getElem_of_mem hg
  obtain ⟨_, _, _, _, _, _, _, hc⟩ := at_T87 h (i : Int) (by omega) (by omega)
  rw [rdB, getB hi] at hc
  exact hc.2.1⟩
/-- How much rows count. -/
def sizeR (rs : List LRow) : Nat := rs.length + shT rs
/-- Not too many. -/
def FewT (rs : List LRow) : Prop := rs.length ≤ 1048576 ∧ ∀ g ∈ rs, g.f1.length ≤ 1048576
theorem fewR_of {a : Int} {rs : List LRow} (ha : a ≤ 1048576) (h : ¬ a < (sizeR rs : Int)) : FewT rs := by
  unfold sizeR at h
  exact ⟨by omega, fun g hg => by have := sh_mem hg; omega⟩
theorem fewT_of {a : Int} {sz : List Int} {rs : List LRow} (ha : a ≤ 1048576) (h : ¬ a < (sizeT sz rs : Int)) : sz.length ≤ 1048576 ∧ FewT rs := by
  unfold sizeT at h
  exact ⟨by omega, by omega, fun g hg => by have := sh_mem hg; omega⟩
theorem totR_of {rs : List LRow} {ms : List Row} (hm : ms = rs.map toR) : totT ms = sizeR rs := by subst hm; exact tot_toR rs
theorem szR_calls (A : Option Addr) (c : Nat) (rs : List LRow) (a : Int) (h0 : 0 ≤ a) (h1 : a ≤ 1048576) (w : World) (hC : Kd.C lW w A rs.length rs) (hc : rs.length ≤ c) :
    Calls Try.prog 15 #[.slice A rs.length c, .int .i64 a] w fun e w' => e = .returned (.int .i64 (if a < (sizeR rs : Int) then -1 else a - (sizeR rs : Int))) ∧ Below w.heap.size w w' := by
  obtain ⟨k, hk⟩ := (szRowS_is rs (lens_L hC).1 (lens_L hC).2 a h0 h1).rounds
  exact laws_szRowS.calls k A c rs a _ w hC hc hk
theorem toR_calls (A : Option Addr) (c : Nat) (rs : List LRow) (ms : List Row) (hm : ms = rs.map toR) (hf : FewT rs) (w : World) (hC : Kd.C lW w A rs.length rs) (hc : rs.length ≤ c) :
    Calls Try.prog 18 #[.slice A rs.length c] w fun e w' => ∃ v, e = .returned v ∧ Kd.S dW 87 w' w.heap.size (fun _ => True) v ms ∧ Below w.heap.size w w' := by
  subst hm
  obtain ⟨k, hk⟩ := (toRowS_is rs hf.1 hf.2).rounds
  exact laws_toRowS.calls k A c rs _ w hC hc hk
theorem eqR_calls (A A' : Option Addr) (c c' : Nat) (a b : List Row) (w : World) (hC : Kd.C dW w A a.length a) (hc : a.length ≤ c) (hC' : Kd.C dW w A' b.length b) (hc' : b.length ≤ c') :
    Calls Try.prog 22 #[.slice A a.length c, .slice A' b.length c'] w fun e w' => e = .returned (.bool (decide (a = b))) ∧ Below w.heap.size w w' := by
  obtain ⟨k, hk⟩ := (eqRowS_is a b (lens_R hC).1 (lens_R hC).2).rounds
  exact laws_eqRowS.calls k A c a A' c' b _ w hC hc hC' hc' hk

/-! ### tables -/
theorem szT_calls (n : Int) (B : Option Addr) (d : Nat) (sz : List Int) (A : Option Addr) (c : Nat) (rs : List LRow) (a : Int) (h0 : 0 ≤ a) (h1 : a ≤ 1048576) (w : World) (hB : Kd.C (Kd.int .i64) w B sz.length sz) (hd : sz.length ≤ d) (hC : Kd.C lW w A rs.length rs) (hc : rs.length ≤ c) :
    Calls Try.prog 27 #[.agg #[.int .i64 n, .slice B sz.length d, .slice A rs.length c], .int .i64 a] w fun e w' => e = .returned (.int .i64 (if a < (sizeT sz rs : Int) then -1 else a - (sizeT sz rs : Int))) ∧ Below w.heap.size w w' := by
  obtain ⟨k, hk⟩ := (szTable_is n sz rs hB.2.1 (lens_L hC).1 (lens_L hC).2 a h0 h1).rounds
  exact laws_szTable.calls k n B d sz A c rs a _ w hB hd hC hc hk
theorem toT_calls (n : Int) (B : Option Addr) (d : Nat) (sz : List Int) (A : Option Addr) (c : Nat) (rs : List LRow) (ms : List Row) (hm : ms = rs.map toR) (hf : sz.length ≤ 1048576 ∧ FewT rs) (w : World) (hB : Kd.C (Kd.int .i64) w B sz.length sz) (hd : sz.length ≤ d) (hC : Kd.C lW w A rs.length rs) (hc : rs.length ≤ c) :
    Calls Try.prog 29 #[.agg #[.int .i64 n, .slice B sz.length d, .slice A rs.length c]] w fun e w' => ∃ v1 v2, e = .returned (.agg #[.int .i64 n, v1, v2]) ∧ Kd.R (Kd.int .i64) 2 w' w.heap.size (fun _ => True) v1 sz ∧ Kd.S dW 87 w' w.heap.size (fun k => some k ≠ v1.ownBlock) v2 ms ∧ Below w.heap.size w w' := by
  subst hm
  obtain ⟨k, hk⟩ := (toTable_is n sz rs hf.1 hf.2.1 hf.2.2).rounds
  exact laws_toTable.calls k n B d sz A c rs _ _ _ w hB hd hC hc hk
theorem eqT_calls (n m : Int) (B : Option Addr) (d : Nat) (sz : List Int) (A : Option Addr) (c : Nat) (rs : List Row) (B' : Option Addr) (d' : Nat) (sz' : List Int) (A' : Option Addr) (c' : Nat) (rs' : List Row) (w : World) (hB : Kd.C (Kd.int .i64) w B sz.length sz) (hd : sz.length ≤ d) (hC : Kd.C dW w A rs.length rs) (hc : rs.length ≤ c) (hB' : Kd.C (Kd.int .i64) w B' sz'.length sz') (hd' : sz'.length ≤ d') (hC' : Kd.C dW w A' rs'.length rs') (hc' : rs'.length ≤ c') :
    Calls Try.prog 20 #[.agg #[.int .i64 n, .slice B sz.length d, .slice A rs.length c], .agg #[.int .i64 m, .slice B' sz'.length d', .slice A' rs'.length c']] w fun e w' => e = .returned (.bool (decide (n = m ∧ sz = sz' ∧ rs = rs'))) ∧ Below w.heap.size w w' := by
  obtain ⟨k, hk⟩ := (eqTable_is n m sz sz' rs rs' hB.2.1 (lens_R hC).1 (lens_R hC).2).rounds
  exact laws_eqTable.calls k n B d sz A c rs m B' d' sz' A' c' rs' _ w hB hd hC hc hB' hd' hC' hc' hk
theorem heldT_at (n : Int) (B : Option Addr) (d : Nat) (sz : List Int) (A : Option Addr) (c : Nat) (rs : List Row) (k0 : Int) (h0 : 0 ≤ k0) (hk0 : k0 + sz.length + totT rs < 9223372036854775807) (w : World) (L M : Nat) (hI : ∃ b lo hi, ItmT w b (.slice B L d) (upL sz.length k0) (.slice A M c) (markT rs (k0 + sz.length)) lo hi) :
    Calls Try.prog 26 #[.agg #[.int .i64 n, .slice B L d, .slice A M c], .int .i64 k0] w fun e w' => e = .returned (.int .i64 (k0 + sz.length + totT rs)) ∧ Below w.heap.size w w' := by
  obtain ⟨b, lo, hi, h⟩ := hI
  obtain ⟨⟨rfl, h2, h3⟩, ⟨rfl, h5, h6⟩⟩ := h.C
  have hl : rs.length ≤ 9223372036854775807 := by have := h6.2.1; rwa [markT_len] at this
  obtain ⟨k, hk⟩ := (heldTable_is n sz rs k0 h0 hk0 hl).rounds
  exact laws_heldTable.calls k n B d _ A c _ k0 _ w h3 h2 h6 h5 hk

/-- What a function that makes a table leaves. -/
def TabRes (W : World) (r1 : Int) (rz : List Int) (r2 : List Row) (r3 : Int) (e : Ending) (w' : World) : Prop :=
  ∃ v1 v2, e = .returned (.tuple #[.agg #[.int .i64 r1, v1, v2], .int .i64 r3]) ∧ Kd.R (Kd.int .i64) 2 w' W.heap.size (fun _ => True) v1 rz ∧ Kd.S dW 87 w' W.heap.size (fun k => some k ≠ v1.ownBlock) v2 r2 ∧ Below W.heap.size W w'
end Go.Proofs.Ytdahdeohmbadhaa.ExTC
