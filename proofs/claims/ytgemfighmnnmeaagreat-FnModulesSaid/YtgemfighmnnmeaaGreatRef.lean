/- What the reference's printed functions on families compute. No program in sight. -/
import Derived.Test.YtgemfighmnnmeaaGreatGx4
import Derived.Test.YtgemfighmnnmeaaGreatBits
import Derived.Test.YtgemfighmnnmeaaGreatCrowds
import Derived.Test.YtgemfighmnnmeaaGreatFrom
namespace Go.Proofs.YtgemfighmnnmeaaGreat.Ref
open Go.RowKit Go.Proofs.YtgemfighmnnmeaaGreatW.PrintWords Go.Proofs.YtgemfighmnnmeaaGreatW.PrintMore Go.Proofs.YtgemfighmnnmeaaGreat.G Go.Proofs.YtgemfighmnnmeaaGreat.Fam Go.Proofs.YtgemfighmnnmeaaGreat.Loops Go.Proofs.YtgemfighmnnmeaaGreat.Bits Go.Proofs.YtgemfighmnnmeaaGreat.Valid Go.Proofs.YtgemfighmnnmeaaGreat.FamLaw Go.Proofs.YtgemfighmnnmeaaGreat.Ops Go.Proofs.YtgemfighmnnmeaaGreat.Opens Go.Proofs.YtgemfighmnnmeaaGreat.From
set_option linter.unusedVariables false
set_option maxRecDepth 100000

/-! ### groups as numbers -/
theorem and64_all : ∀ a : Fin 128, ∀ b : Fin 128, Go.bits .and .i64 ((a.val : Nat) : Int) ((b.val : Nat) : Int) = ((a.val &&& b.val : Nat) : Int) := by decide +kernel
theorem and64 {a b : Nat} (ha : a < 128) (hb : b < 128) : Go.bits .and .i64 (a : Int) (b : Int) = ((a &&& b : Nat) : Int) := and64_all ⟨a, ha⟩ ⟨b, hb⟩
theorem or64_all : ∀ c : Fin 128, ∀ h : Fin 7, Go.bits .or .i64 ((c.val : Nat) : Int) (shl .i64 1 ((h.val : Nat) : Int)) = ((c.val ||| 1 <<< h.val : Nat) : Int) := by decide +kernel
theorem or64 {c h : Nat} (hc : c < 128) (hh : h < 7) : Go.bits .or .i64 (c : Int) (shl .i64 1 (h : Int)) = ((c ||| 1 <<< h : Nat) : Int) := or64_all ⟨c, hc⟩ ⟨h, hh⟩
theorem u64_small {x : Int} (h0 : 0 ≤ x) (h : x < 18446744073709551616) : IntKind.u64.wrap x = x := by
 have : IntKind.u64.wrap x = x % 18446744073709551616 := rfl
 rw [this]; omega
theorem bits_loop (g : List Int) (hl : g.length ≤ 9223372036854775807) (hg : ∀ x ∈ g, 0 ≤ x ∧ x < 7) : ∀ (d n c : Nat), n ≤ g.length → g.length - n = d → c < 128 →
  Ev (fun k => spec_l01Bits.l0 k g (c : Int) (n : Int)) ((((g.drop n).foldl (fun b h => b ||| 1 <<< h.toNat) c : Nat)) : Int) := by
 intro d
 induction d with
 | zero =>
  intro n c hn hd hc
  obtain rfl : n = g.length := by omega
  refine Ev.step (f := fun _ => some (c : Int)) (fun k => by simp only [spec_l01Bits.l0]; rw [if_neg (by omega)]) ?_
  rw [List.drop_length]
  exact Ev.now _
 | succ d ih =>
  intro n c hn hd hc
  have hlt : n < g.length := by omega
  have hx := hg g[n] (List.getElem_mem hlt)
  obtain ⟨y, hy⟩ : ∃ y : Nat, g[n] = (y : Int) := ⟨g[n].toNat, by omega⟩
  rw [List.drop_eq_getElem_cons hlt, List.foldl_cons, hy]
  have h1 := ih (n + 1) (c ||| 1 <<< y) (by omega) (by omega) (or_lt hc (by omega))
  refine Ev.step (fun k => ?_) h1
  simp only [spec_l01Bits.l0]
  rw [if_pos (by omega), if_pos (by omega), rd_nat]
  simp only [List.getD, List.getElem?_eq_getElem hlt, Option.getD_some]
  rw [hy, u64_small (by omega) (by omega), if_pos (by omega), or64 hc (by omega), wrap_id (by omega) (by omega)]
  rfl
theorem bits_is (g : List Int) (hl : g.length ≤ 9223372036854775807) (hg : ∀ x ∈ g, 0 ≤ x ∧ x < 7) : Ev (fun k => spec_l01Bits.f k g) ((bitsN g : Nat) : Int) := by
 have := bits_loop g hl hg g.length 0 0 (by omega) (by omega) (by omega)
 exact this
theorem bits_lt (g : List Int) (hg : ∀ x ∈ g, 0 ≤ x ∧ x < 7) : bitsN g < 128 := foldl_lt g hg 0 (by omega)

/-! ### the table -/
theorem rdOf_nat (l : List Bool) (n : Nat) : rdOf false l (n : Int) = l.getD n false := by simp [rdOf]
theorem rdL1 (l : List (List Int)) (n : Nat) : rd_L1 l (n : Int) = l.getD n [] := by simp [rd_L1]
theorem openN_take (gs : List (List Int)) (c i : Nat) (hi : i < gs.length) : openN (gs.take (i + 1)) c = (openN (gs.take i) c || decide (c &&& bitsN (gs.getD i []) = bitsN (gs.getD i []))) := by
 unfold openN
 rw [List.take_succ_eq_append_getElem hi, List.any_append]
 simp [List.getD, hi]
theorem set_self (l : List Bool) (c : Nat) (b : Bool) (h : l.getD c false = b) : l.set c b = l := by
 apply List.ext_getElem?
 intro j
 rw [List.getElem?_set]
 by_cases e : c = j
 ·
  subst e
  rw [if_pos rfl]
  by_cases hc : c < l.length
  ·
   rw [if_pos hc, List.getElem?_eq_getElem hc]
   simp [List.getD, hc] at h
   simp [h]
  ·
   rw [if_neg hc, List.getElem?_eq_none (by omega)]
 ·
  rw [if_neg e]
theorem table_in (n : Int) (gs : List (List Int)) (hs : Smalls gs) (hgl : ∀ g ∈ gs, g.length ≤ 9223372036854775807) (hl : gs.length ≤ 9223372036854775807) (L : Nat) (hL : L ≤ 128) {α : Type} (r : List Bool × Int) :
  ∀ (d i : Nat) (x : List Bool) (c : Nat), i ≤ gs.length → gs.length - i = d → x.length = L → c < L → x.getD c false = openN (gs.take i) c →
   Ev (fun k => spec_l01Table.l0 k (x.set c (openN gs c)) ((c + 1 : Nat) : Int) n gs) r → Ev (fun k => spec_l01Table.l1 k x (c : Int) (i : Int) n gs) r := by
 intro d
 induction d with
 | zero =>
  intro i x c hi hd hx hc hq hn
  obtain rfl : i = gs.length := by omega
  rw [List.take_length] at hq
  rw [set_self x c _ hq] at hn
  refine Ev.step (fun k => ?_) hn
  simp only [spec_l01Table.l1]
  rw [if_neg (by omega), wrap_id (by omega) (by omega)]
  rfl
 | succ d ih =>
  intro i x c hi hd hx hc hq hn
  have hlt : i < gs.length := by omega
  cases hv : x.getD c false with
  | true =>
   have ho : openN gs c = true := by
    have h1 : openN (gs.take i) c = true := by rw [← hq, hv]
    unfold openN at h1 ⊢
    rw [List.any_eq_true] at h1 ⊢
    obtain ⟨g, hg, hp⟩ := h1
    exact ⟨g, List.mem_of_mem_take hg, hp⟩
   rw [ho, set_self x c true hv] at hn
   refine Ev.step (fun k => ?_) hn
   simp only [spec_l01Table.l1]
   rw [if_pos (by omega), if_pos (by omega), if_pos (by omega), rdOf_nat, hv, if_pos rfl, wrap_id (by omega) (by omega)]
   rfl
  | false =>
   have hmem : gs.getD i [] ∈ gs := by simp [List.getD, hlt]
   have hb := bits_is (gs.getD i []) (hgl _ hmem) (fun y hy => hs _ hmem y hy)
   have hbl := bits_lt (gs.getD i []) (fun y hy => hs _ hmem y hy)
   have h2 := ih (i + 1) (x.set c (decide (c &&& bitsN (gs.getD i []) = bitsN (gs.getD i [])))) c (by omega) (by omega) (by simpa using hx) hc (by
    rw [openN_take gs c i hlt, ← hq, hv]
    simp [List.getD, hx, hc]) (by rw [List.set_set]; exact hn)
   refine Ev.step (f := fun k => (spec_l01Bits.f k (gs.getD i [])).bind fun t179 => (spec_l01Table.l1 k (x.set (c : Int).toNat ((Go.bits .and .i64 t179 (c : Int)) == t179)) (c : Int) (wrap64 ((i : Int) + 1)) n gs)) (fun k => ?_) (Ev.bind hb ?_)
   ·
    simp only [spec_l01Table.l1]
    rw [if_pos (by omega), if_pos (by omega), if_pos (by omega), rdOf_nat, hv, if_neg (by simp), if_pos (by omega), rdL1]
   ·
    refine Ev.congr (fun k => ?_) h2
    rw [and64 hbl (by omega), wrap_id (by omega) (by omega), Int.toNat_natCast]
    have e1 : ((((bitsN (gs.getD i []) &&& c : Nat) : Int) == ((bitsN (gs.getD i []) : Nat) : Int))) = decide (c &&& bitsN (gs.getD i []) = bitsN (gs.getD i [])) := by
     rw [Bool.eq_iff_iff, beq_iff_eq, decide_eq_true_iff, Nat.and_comm]
     omega
    rw [e1]
    rfl
theorem table_out (n : Int) (gs : List (List Int)) (hs : Smalls gs) (hgl : ∀ g ∈ gs, g.length ≤ 9223372036854775807) (hl : gs.length ≤ 9223372036854775807) (L : Nat) (hL : L ≤ 128) :
  ∀ (d c : Nat), c ≤ L → L - c = d → Ev (fun k => spec_l01Table.l0 k ((List.range c).map (openN gs) ++ List.replicate (L - c) false) (c : Int) n gs) ((List.range L).map (openN gs), n) := by
 intro d
 induction d with
 | zero =>
  intro c hc hd
  obtain rfl : c = L := by omega
  refine Ev.step (f := fun _ => some ((List.range c).map (openN gs), n)) (fun k => ?_) (Ev.now _)
  simp only [spec_l01Table.l0]
  rw [if_neg (by simp)]
  simp
 | succ d ih =>
  intro c hc hd
  have h1 := ih (c + 1) (by omega) (by omega)
  have hx : ((List.range c).map (openN gs) ++ List.replicate (L - c) false).length = L := by simp; omega
  have hset : ((List.range c).map (openN gs) ++ List.replicate (L - c) false).set c (openN gs c) = (List.range (c + 1)).map (openN gs) ++ List.replicate (L - (c + 1)) false := by
   rw [List.set_append, if_neg (by simp), show L - c = (L - (c + 1)) + 1 by omega, List.replicate_succ]
   simp [List.range_succ]
  refine Ev.step (f := fun k => spec_l01Table.l1 k ((List.range c).map (openN gs) ++ List.replicate (L - c) false) (c : Int) ((0 : Nat) : Int) n gs) (fun k => ?_) (table_in (α := Nat) n gs hs hgl hl L hL _ gs.length 0 _ c (by omega) (by omega) hx (by omega) ?_ (by rw [hset]; exact h1))
  ·
   simp only [spec_l01Table.l0]
   rw [if_pos (by rw [hx]; omega)]
   rfl
  ·
   rw [List.take_zero]
   simp [openN, List.getD, show 0 < L - c by omega]
theorem shl1_all : ∀ n : Fin 8, shl .i64 1 ((n.val : Nat) : Int) = ((2 ^ n.val : Nat) : Int) := by decide +kernel
theorem shl1 {n : Nat} (hn : n ≤ 7) : shl .i64 1 (n : Int) = ((2 ^ n : Nat) : Int) := shl1_all ⟨n, by omega⟩
/-- The table of a family of so many holders. -/
def tableN (n : Nat) (gs : List (List Int)) : List Bool := (List.range (2 ^ n)).map (openN gs)
theorem tableN_len (n : Nat) (gs : List (List Int)) : (tableN n gs).length = 2 ^ n := by simp [tableN]
theorem tableN_at {n : Nat} {gs : List (List Int)} {c : Nat} (hc : c < 2 ^ n) : tb (tableN n gs) c = openN gs c := by simp [tb, tableN, List.getD, hc]
theorem table_is (n : Nat) (hn : n ≤ 7) (gs : List (List Int)) (hs : Smalls gs) (hgl : ∀ g ∈ gs, g.length ≤ 9223372036854775807) (hl : gs.length ≤ 9223372036854775807) : Ev (fun k => spec_l01Table.f k (n : Int) gs) (tableN n gs, (n : Int)) := by
 have h7 := two_pow_le hn
 unfold spec_l01Table.f
 have ht := table_out (n : Int) gs hs hgl hl (2 ^ n) h7 (2 ^ n) 0 (Nat.zero_le _) rfl
 refine Ev.congr (fun k => ?_) ht
 rw [u64_small (by omega) (by omega), shl1 hn]
 generalize 2 ^ n = M at *
 rw [if_pos (by omega), if_pos (by omega), Int.toNat_natCast, if_pos (by omega)]
 rfl

end Go.Proofs.YtgemfighmnnmeaaGreat.Ref
