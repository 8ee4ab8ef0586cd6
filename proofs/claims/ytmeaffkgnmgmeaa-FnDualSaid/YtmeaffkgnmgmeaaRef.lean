/- What the reference's printed functions on families compute. No program in sight. -/
import Derived.Test.YtmeaffkgnmgmeaaGx4
import Derived.Test.YtmeaffkgnmgmeaaGx5
import Derived.Test.YtmeaffkgnmgmeaaGx4
import Derived.Test.YtmeaffkgnmgmeaaFamLaw
import Derived.Test.YtmeaffkgnmgmeaaOps2
import Derived.Test.YtmeaffkgnmgmeaaFrom
namespace Go.Proofs.Ytmeaffkgnmgmeaa.Ref
open Go.RowKit Go.Proofs.YtmeaffkgnmgmeaaW.PrintWords Go.Proofs.YtmeaffkgnmgmeaaW.PrintMore Go.Proofs.Ytmeaffkgnmgmeaa.G Go.Proofs.Ytmeaffkgnmgmeaa.Fam Go.Proofs.Ytmeaffkgnmgmeaa.Loops Go.Proofs.Ytmeaffkgnmgmeaa.Bits Go.Proofs.Ytmeaffkgnmgmeaa.Valid Go.Proofs.Ytmeaffkgnmgmeaa.FamLaw Go.Proofs.Ytmeaffkgnmgmeaa.Ops Go.Proofs.Ytmeaffkgnmgmeaa.Ops2 Go.Proofs.Ytmeaffkgnmgmeaa.Opens Go.Proofs.Ytmeaffkgnmgmeaa.From
set_option linter.unusedVariables false
set_option maxRecDepth 100000

/-! ### groups as numbers -/
theorem and64_all : ∀ a : Fin 128, ∀ b : Fin 128, Go.bits .and .i64 ((a.val : Nat) : Int) ((b.val : Nat) : Int) = ((a.val &&& b.val : Nat) : Int) := by decide +kernel
theorem and64 {a b : Nat} (ha : a < 128) (hb : b < 128) : Go.bits .and .i64 (a : Int) (b : Int) = ((a &&& b : Nat) : Int) := and64_all ⟨a, ha⟩ ⟨b, hb⟩
theorem or64_all : ∀ c : Fin 128, ∀ h : Fin 7, Go.bits .or .i64 ((c.val : Nat) : Int) (shl .i64 1 ((h.val : Nat) : Int)) = ((c.val ||| 1 <<< h.val : Nat) : Int) := by decide +kernel
theorem or64 {c h : Nat} (hc : c < 128) (hh : h < 7) : Go.bits .or .i64 (c : Int) (shl .i64 1 (h : Int)) = ((c ||| 1 <<< h : Nat) : Int) := or64_all ⟨c, hc⟩ ⟨h, hh⟩
theorem u64_small {x : Int} (h0 : 0 ≤ x) (h : x < 18446744073709551616) : IntKind.u64.wrap x = x := by
  have : IntKind.u64.wrap x = x % 18446744073709551616 := rfl
  rw [this]; omega
theorem bits_loop (g : List Int) (hl : g.length ≤ 9223372036854775807) (hg : ∀ x ∈ g, 0 ≤ x ∧ x < 7) : ∀ (d n c : Nat), n ≤ g.length → g.length - n = d → c < 128 →
    Ev (fun k => spec_l01Bits.l0 k g (c : Int) (n : Int)) ((((g.drop n).foldl (fun b h => b ||| 1 <<< h.toNat) c : Nat)) : Int) := by
  intro d
  induction d with
  | zero =>
    intro n c hn hd hc
    obtain rfl : n = g.length := by omega
    refine Ev.step (f := fun _ => some (c : Int)) (fun k => by simp only [spec_l01Bits.l0]; rw [if_neg (by omega)]) ?_
    rw [List.drop_length]
    exact Ev.now _
  | succ d ih =>
    intro n c hn hd hc
    have hlt : n < g.length := by omega
    have hx := hg g[n] (List.getElem_mem hlt)
    obtain ⟨y, hy⟩ : ∃ y : Nat, g[n] = (y : Int) := ⟨g[n].toNat, by omega⟩
    rw [List.drop_eq_getElem_cons hlt, List.foldl_cons, hy]
    have h1 := ih (n + 1) (c ||| 1 <<< y) (by omega) (by omega) (or_lt hc (by omega))
    refine Ev.step (fun k => ?_) h1
    simp only [spec_l01Bits.l0]
    rw [if_pos (by omega), if_pos (by omega), rd_nat]
    simp only [List.getD, List.getElem?_eq_getElem hlt, Option.getD_some]
    rw [hy, u64_small (by omega) (by omega), if_pos (by omega), or64 hc (by omega), wrap_id (by omega) (by omega)]
    rfl
theorem bits_is (g : List Int) (hl : g.length ≤ 9223372036854775807) (hg : ∀ x ∈ g, 0 ≤ x ∧ x < 7) : Ev (fun k => spec_l01Bits.f k g) ((bitsN g : Nat) : Int) := by
  have := bits_loop g hl hg g.length 0 0 (by omega) (by omega) (by omega)
  exact this
theorem bits_lt (g : List Int) (hg : ∀ x ∈ g, 0 ≤ x ∧ x < 7) : bitsN g < 128 := foldl_lt g hg 0 (by omega)

/-! ### the table -/
theorem rdOf_nat (l : List Bool) (n : Nat) : rdOf false l (n : Int) = l.getD n false := by simp [rdOf]
theorem rdL1 (l : List (List Int)) (n : Nat) : rd_L1 l (n : Int) = l.getD n [] := by simp [rd_L1]
theorem openN_take (gs : List (List Int)) (c i : Nat) (hi : i < gs.length) : openN (gs.take (i + 1)) c = (openN (gs.take i) c || decide (c &&& bitsN (gs.getD i []) = bitsN (gs.getD i []))) := by
  unfold openN
  rw [List.take_succ_eq_append_getElem hi, List.any_append]
  simp [List.getD, hi]
theorem set_self (l : List Bool) (c : Nat) (b : Bool) (h : l.getD c false = b) : l.set c b = l := by
  apply List.ext_getElem?
  intro j
  rw [List.getElem?_set]
  by_cases e : c = j
  · subst e
    rw [if_pos rfl]
    by_cases hc : c < l.length
    · rw [if_pos hc, List.getElem?_eq_getElem hc]
      simp [List.getD, hc] at h
      simp [h]
    · rw [if_neg hc, List.getElem?_eq_none (by omega)]
  · rw [if_neg e]
theorem table_in (n : Int) (gs : List (List Int)) (hs : Smalls gs) (hgl : ∀ g ∈ gs, g.length ≤ 9223372036854775807) (hl : gs.length ≤ 9223372036854775807) (L : Nat) (hL : L ≤ 128) {α : Type} (r : List Bool × Int) :
    ∀ (d i : Nat) (x : List Bool) (c : Nat), i ≤ gs.length → gs.length - i = d → x.length = L → c < L → x.getD c false = openN (gs.take i) c →
      Ev (fun k => spec_l01Table.l0 k (x.set c (openN gs c)) ((c + 1 : Nat) : Int) n gs) r → Ev (fun k => spec_l01Table.l1 k x (c : Int) (i : Int) n gs) r := by
  intro d
  induction d with
  | zero =>
    intro i x c hi hd hx hc hq hn
    obtain rfl : i = gs.length := by omega
    rw [List.take_length] at hq
    rw [set_self x c _ hq] at hn
    refine Ev.step (fun k => ?_) hn
    simp only [spec_l01Table.l1]
    rw [if_neg (by omega), wrap_id (by omega) (by omega)]
    rfl
  | succ d ih =>
    intro i x c hi hd hx hc hq hn
    have hlt : i < gs.length := by omega
    cases hv : x.getD c false with
    | true =>
      have ho : openN gs c = true := by
        have h1 : openN (gs.take i) c = true := by rw [← hq, hv]
        unfold openN at h1 ⊢
        rw [List.any_eq_true] at h1 ⊢
        obtain ⟨g, hg, hp⟩ := h1
        exact ⟨g, List.mem_of_mem_take hg, hp⟩
      rw [ho, set_self x c true hv] at hn
      refine Ev.step (fun k => ?_) hn
      simp only [spec_l01Table.l1]
      rw [if_pos (by omega), if_pos (by omega), if_pos (by omega), rdOf_nat, hv, if_pos rfl, wrap_id (by omega) (by omega)]
      rfl
    | false =>
      have hmem : gs.getD i [] ∈ gs := by simp [List.getD, hlt]
      have hb := bits_is (gs.getD i []) (hgl _ hmem) (fun y hy => hs _ hmem y hy)
      have hbl := bits_lt (gs.getD i []) (fun y hy => hs _ hmem y hy)
      have h2 := ih (i + 1) (x.set c (decide (c &&& bitsN (gs.getD i []) = bitsN (gs.getD i [])))) c (by omega) (by omega) (by simpa using hx) hc (by
        rw [openN_take gs c i hlt, ← hq, hv]
        simp [List.getD, hx, hc]) (by rw [List.set_set]; exact hn)
      refine Ev.step (f := fun k => (spec_l01Bits.f k (gs.getD i [])).bind fun t179 => (spec_l01Table.l1 k (x.set (c : Int).toNat ((Go.bits .and .i64 t179 (c : Int)) == t179)) (c : Int) (wrap64 ((i : Int) + 1)) n gs)) (fun k => ?_) (Ev.bind hb ?_)
      · simp only [spec_l01Table.l1]
        rw [if_pos (by omega), if_pos (by omega), if_pos (by omega), rdOf_nat, hv, if_neg (by simp), if_pos (by omega), rdL1]
      · refine Ev.congr (fun k => ?_) h2
        rw [and64 hbl (by omega), wrap_id (by omega) (by omega), Int.toNat_natCast]
        have e1 : ((((bitsN (gs.getD i []) &&& c : Nat) : Int) == ((bitsN (gs.getD i []) : Nat) : Int))) = decide (c &&& bitsN (gs.getD i []) = bitsN (gs.getD i [])) := by
          rw [Bool.eq_iff_iff, beq_iff_eq, decide_eq_true_iff, Nat.and_comm]
          omega
        rw [e1]
        rfl
theorem table_out (n : Int) (gs : List (List Int)) (hs : Smalls gs) (hgl : ∀ g ∈ gs, g.length ≤ 9223372036854775807) (hl : gs.length ≤ 9223372036854775807) (L : Nat) (hL : L ≤ 128) :
    ∀ (d c : Nat), c ≤ L → L - c = d → Ev (fun k => spec_l01Table.l0 k ((List.range c).map (openN gs) ++ List.replicate (L - c) false) (c : Int) n gs) ((List.range L).map (openN gs), n) := by
  intro d
  induction d with
  | zero =>
    intro c hc hd
    obtain rfl : c = L := by omega
    refine Ev.step (f := fun _ => some ((List.range c).map (openN gs), n)) (fun k => ?_) (Ev.now _)
    simp only [spec_l01Table.l0]
    rw [if_neg (by simp)]
    simp
  | succ d ih =>
    intro c hc hd
    have h1 := ih (c + 1) (by omega) (by omega)
    have hx : ((List.range c).map (openN gs) ++ List.replicate (L - c) false).length = L := by simp; omega
    have hset : ((List.range c).map (openN gs) ++ List.replicate (L - c) false).set c (openN gs c) = (List.range (c + 1)).map (openN gs) ++ List.replicate (L - (c + 1)) false := by
      rw [List.set_append, if_neg (by simp), show L - c = (L - (c + 1)) + 1 by omega, List.replicate_succ]
      simp [List.range_succ]
    refine Ev.step (f := fun k => spec_l01Table.l1 k ((List.range c).map (openN gs) ++ List.replicate (L - c) false) (c : Int) ((0 : Nat) : Int) n gs) (fun k => ?_) (table_in (α := Nat) n gs hs hgl hl L hL _ gs.length 0 _ c (by omega) (by omega) hx (by omega) ?_ (by rw [hset]; exact h1))
    · simp only [spec_l01Table.l0]
      rw [if_pos (by rw [hx]; omega)]
      rfl
    · rw [List.take_zero]
      simp [openN, List.getD, show 0 < L - c by omega]
theorem shl1_all : ∀ n : Fin 8, shl .i64 1 ((n.val : Nat) : Int) = ((2 ^ n.val : Nat) : Int) := by decide +kernel
theorem shl1 {n : Nat} (hn : n ≤ 7) : shl .i64 1 (n : Int) = ((2 ^ n : Nat) : Int) := shl1_all ⟨n, by omega⟩
/-- The table of a family of so many holders. -/
def tableN (n : Nat) (gs : List (List Int)) : List Bool := (List.range (2 ^ n)).map (openN gs)
theorem tableN_len (n : Nat) (gs : List (List Int)) : (tableN n gs).length = 2 ^ n := by simp [tableN]
theorem tableN_at {n : Nat} {gs : List (List Int)} {c : Nat} (hc : c < 2 ^ n) : tb (tableN n gs) c = openN gs c := by simp [tb, tableN, List.getD, hc]
theorem table_is (n : Nat) (hn : n ≤ 7) (gs : List (List Int)) (hs : Smalls gs) (hgl : ∀ g ∈ gs, g.length ≤ 9223372036854775807) (hl : gs.length ≤ 9223372036854775807) : Ev (fun k => spec_l01Table.f k (n : Int) gs) (tableN n gs, (n : Int)) := by
  have h7 := two_pow_le hn
  unfold spec_l01Table.f
  have ht := table_out (n : Int) gs hs hgl hl (2 ^ n) h7 (2 ^ n) 0 (Nat.zero_le _) rfl
  refine Ev.congr (fun k => ?_) ht
  rw [u64_small (by omega) (by omega), shl1 hn]
  generalize 2 ^ n = M at *
  rw [if_pos (by omega), if_pos (by omega), Int.toNat_natCast, if_pos (by omega)]
  rfl

/-! ### the source of numbers -/
def Bytes (l : List Int) : Prop := ∀ x ∈ l, 0 ≤ x ∧ x < 256
theorem u64_nn (x : Int) : 0 ≤ IntKind.u64.wrap x := by
  have : IntKind.u64.wrap x = x % 18446744073709551616 := rfl
  rw [this]; omega
theorem u64_lt (x : Int) : IntKind.u64.wrap x < 18446744073709551616 := by
  have : IntKind.u64.wrap x = x % 18446744073709551616 := rfl
  rw [this]; omega
theorem and255 (a : Nat) (ha : a < 18446744073709551616) : Go.bits .and .u64 (a : Int) 255 = ((a &&& 255 : Nat) : Int) := u64_and_nat a 255 ha (by omega)
theorem low_byte {x : Int} (h0 : 0 ≤ x) (h1 : x < 18446744073709551616) : 0 ≤ wrap64 (Go.bits .and .u64 (x / 1099511627776) 255) ∧ wrap64 (Go.bits .and .u64 (x / 1099511627776) 255) < 256 := by
  obtain ⟨a, ha⟩ : ∃ a : Nat, x / 1099511627776 = (a : Int) := ⟨(x / 1099511627776).toNat, by omega⟩
  have hb : a &&& 255 ≤ 255 := Nat.and_le_right
  rw [ha, and255 a (by omega), wrap_id (by omega) (by omega)]
  omega
theorem next_ok (cd : List Int) (hb : Bytes cd) (at_ sd : Int) (h0 : 0 ≤ at_) (h1 : at_ < 100000) : ∃ r a2 s2, spec_l00Src_next.f cd at_ sd = some (r, a2, s2) ∧ 0 ≤ r ∧ r < 256 ∧ 0 ≤ a2 ∧ a2 ≤ at_ + 1 := by
  unfold spec_l00Src_next.f
  have hw : wrap64 (at_ + 1) = at_ + 1 := wrap_id (by omega) (by omega)
  rw [hw]
  by_cases h : at_ < (cd.length : Int)
  · rw [if_pos h, if_pos h0]
    have hx := hb (rd cd at_) (by
      unfold rd
      rw [List.getD_eq_getElem?_getD, List.getElem?_eq_getElem (by omega)]
      exact List.getElem_mem _)
    by_cases h2 : at_ + 1 ≤ (cd.length : Int)
    · rw [if_pos h2]
      exact ⟨_, _, _, rfl, by rw [wrap_id (by omega) (by omega)]; omega, by rw [wrap_id (by omega) (by omega)]; omega, by omega, by omega⟩
    · rw [if_neg h2]
      have := low_byte (u64_nn ((IntKind.u64.wrap ((IntKind.u64.wrap (sd * 6364136223846793005)) + (IntKind.u64.wrap (wrap64 (rd cd at_))))) + 1442695040888963407)) (u64_lt _)
      exact ⟨_, _, _, rfl, this.1, this.2, by omega, by omega⟩
  · rw [if_neg h]
    by_cases h2 : at_ + 1 ≤ (cd.length : Int)
    · rw [if_pos h2]
      exact ⟨_, _, _, rfl, by omega, by omega, by omega, by omega⟩
    · rw [if_neg h2]
      have := low_byte (u64_nn ((IntKind.u64.wrap ((IntKind.u64.wrap (sd * 6364136223846793005)) + 0)) + 1442695040888963407)) (u64_lt _)
      exact ⟨_, _, _, rfl, this.1, this.2, by omega, by omega⟩
theorem pick_ok (cd : List Int) (hb : Bytes cd) (at_ sd n : Int) (h0 : 0 ≤ at_) (h1 : at_ < 90000) (hn : 1 ≤ n) (hn2 : n ≤ 200) : ∃ r a2 s2, spec_l00Src_pick.f cd at_ sd n = some (r, a2, s2) ∧ 0 ≤ r ∧ r < n ∧ 0 ≤ a2 ∧ a2 ≤ at_ + 1 := by
  unfold spec_l00Src_pick.f
  by_cases h : n ≤ 1
  · rw [if_pos h]; exact ⟨_, _, _, rfl, by omega, by omega, by omega, by omega⟩
  · rw [if_neg h]
    obtain ⟨r, a2, s2, e, r0, r1, a0, a1⟩ := next_ok cd hb at_ sd h0 (by omega)
    rw [e]
    simp only [Option.bind_some]
    rw [if_neg (by omega), if_neg (by omega)]
    refine ⟨_, _, _, rfl, ?_, ?_, a0, a1⟩
    · rw [Int.tmod_eq_emod_of_nonneg r0]; exact Int.emod_nonneg _ (by omega)
    · rw [Int.tmod_eq_emod_of_nonneg r0]; exact Int.emod_lt_of_pos _ (by omega)
theorem one_ok (cd : List Int) (hb : Bytes cd) (at_ sd n : Int) (h0 : 0 ≤ at_) (h1 : at_ < 90000) (hn : 1 ≤ n) (hn2 : n ≤ 200) : ∃ b a2 s2, spec_l00Src_one.f cd at_ sd n = some (b, a2, s2) ∧ 0 ≤ a2 ∧ a2 ≤ at_ + 1 := by
  obtain ⟨r, a2, s2, e, _, _, a0, a1⟩ := pick_ok cd hb at_ sd n h0 h1 hn hn2
  unfold spec_l00Src_one.f
  rw [e]
  exact ⟨_, _, _, rfl, a0, a1⟩

/-! ### weights -/
theorem wsum_le (ws : List Int) (hw : ∀ x ∈ ws, 0 ≤ x ∧ x ≤ 4) : 0 ≤ ws.sum ∧ ws.sum ≤ 4 * ws.length := by
  induction ws with
  | nil => simp
  | cons a t ih =>
    have h1 := hw a (by simp)
    have h2 := ih (fun x hx => hw x (by simp [hx]))
    rw [List.sum_cons, List.length_cons]
    omega
/-- What a number's holders weigh, holder by holder. -/
def wbits (ws : List Int) (c h : Nat) : Int := ((List.range h).map fun i => if c.testBit i then ws.getD i 0 else 0).sum
theorem wbits_succ (ws : List Int) (c h : Nat) : wbits ws c (h + 1) = wbits ws c h + (if c.testBit h then ws.getD h 0 else 0) := by
  unfold wbits
  rw [List.range_succ, List.map_append, List.sum_append]
  simp
theorem wbits_bound (ws : List Int) (hw : ∀ x ∈ ws, 0 ≤ x ∧ x ≤ 1000) (c : Nat) : ∀ h, 0 ≤ wbits ws c h ∧ wbits ws c h ≤ 1000 * h := by
  intro h
  induction h with
  | zero => simp [wbits]
  | succ h ih =>
    rw [wbits_succ]
    have key : 0 ≤ ws.getD h 0 ∧ ws.getD h 0 ≤ 1000 := by
      rw [List.getD_eq_getElem?_getD]
      by_cases hl : h < ws.length
      · rw [List.getElem?_eq_getElem hl]
        have := hw _ (List.getElem_mem hl)
        simpa using this
      · rw [List.getElem?_eq_none (by omega)]; simp
    split <;> omega
def weighB (ws : List Int) (q : Int) (c : Nat) : Bool := decide (wbits ws c ws.length ≥ q)
theorem shr_bit {c h : Nat} (hc : c < 128) (hh : h < 7) : (Go.bits .and .i64 (shr .i64 (c : Int) (h : Int)) 1) = if c.testBit h then 1 else 0 := shr_all ⟨c, hc⟩ ⟨h, hh⟩
where shr_all : ∀ c : Fin 128, ∀ h : Fin 7, (Go.bits .and .i64 (shr .i64 ((c.val : Nat) : Int) ((h.val : Nat) : Int)) 1) = if c.val.testBit h.val then 1 else 0 := by decide +kernel
theorem weighted_in (ws : List Int) (q : Int) (hl : ws.length ≤ 7) (hw : ∀ x ∈ ws, 0 ≤ x ∧ x ≤ 1000) (c : Nat) (hc : c < 128) (x : List Bool) (hx : x.length ≤ 128) (r : Int × List (List Int)) (hn : Ev (fun k => spec_l01Weighted.l0 k ws q (x ++ [weighB ws q c]) ((c + 1 : Nat) : Int)) r) :
    ∀ (d h : Nat), h ≤ ws.length → ws.length - h = d → Ev (fun k => spec_l01Weighted.l1 k ws q x (c : Int) (wbits ws c h) (h : Int)) r := by
  intro d
  induction d with
  | zero =>
    intro h hh hd
    obtain rfl : h = ws.length := by omega
    refine Ev.step (fun k => ?_) hn
    simp only [spec_l01Weighted.l1]
    rw [if_neg (by omega), if_pos (by omega), wrap_id (by omega) (by omega)]
    rfl
  | succ d ih =>
    intro h hh hd
    have h1 := ih (h + 1) (by omega) (by omega)
    have hb := wbits_bound ws hw c (h + 1)
    rw [wbits_succ] at h1 hb
    refine Ev.step (fun k => ?_) h1
    simp only [spec_l01Weighted.l1]
    rw [if_pos (by omega), u64_small (by omega) (by omega), if_pos (by omega), shr_bit hc (by omega)]
    have hc1 : wrap64 ((h : Int) + 1) = ((h + 1 : Nat) : Int) := by rw [wrap_id (by omega) (by omega)]; omega
    rw [hc1]
    cases ht : c.testBit h with
    | true =>
      rw [ht, if_pos rfl] at hb
      rw [if_pos rfl, if_pos rfl, if_pos (by omega), rd_nat, wrap_id (by omega) (by omega), if_pos rfl]
    | false =>
      rw [if_neg (by simp), if_neg (by simp), Int.add_zero]
theorem weighted_out (ws : List Int) (q : Int) (hl : ws.length ≤ 7) (hw : ∀ x ∈ ws, 0 ≤ x ∧ x ≤ 1000) : ∀ (d c : Nat), c ≤ 2 ^ ws.length → 2 ^ ws.length - c = d →
    Ev (fun k => spec_l01Weighted.l0 k ws q ((List.range c).map (weighB ws q)) (c : Int)) ((ws.length : Int), famN ws.length (weighB ws q)) := by
  have h7 := two_pow_le hl
  intro d
  induction d with
  | zero =>
    intro c hc hd
    obtain rfl : c = 2 ^ ws.length := by omega
    have hf : FromF (ws.length : Int) ((List.range (2 ^ ws.length)).map (weighB ws q)) = some ((ws.length : Int), famN ws.length (weighB ws q)) := by
      unfold FromF
      rw [if_pos ⟨by omega, by simp⟩, Int.toNat_natCast]
      congr 2
      apply famN_congr
      intro c hc
      simp [tb, List.getD, hc]
    refine Ev.step (f := fun _ => some ((ws.length : Int), famN ws.length (weighB ws q))) (fun k => ?_) (Ev.now _)
    simp only [spec_l01Weighted.l0]
    rw [u64_small (by omega) (by omega), if_pos (by omega), shl1 hl, if_neg (Int.lt_irrefl _)]
    show (FromF (ws.length : Int) _).bind _ = _
    rw [hf]
    rfl
  | succ d ih =>
    intro c hc hd
    have h1 := ih (c + 1) (by omega) (by omega)
    rw [List.range_succ, List.map_append] at h1
    have h2 := weighted_in ws q hl hw c (by omega) ((List.range c).map (weighB ws q)) (by simp; omega) _ h1 ws.length 0 (by omega) (by omega)
    refine Ev.step (fun k => ?_) h2
    simp only [spec_l01Weighted.l0]
    rw [u64_small (by omega) (by omega), if_pos (by omega), shl1 hl, if_pos (Int.ofNat_lt.2 (by omega))]
    rfl
theorem weighted_is (ws : List Int) (q : Int) (hl : ws.length ≤ 7) (hw : ∀ x ∈ ws, 0 ≤ x ∧ x ≤ 1000) : Ev (fun k => spec_l01Weighted.f k ws q) ((ws.length : Int), famN ws.length (weighB ws q)) := by
  have := weighted_out ws q hl hw (2 ^ ws.length) 0 (Nat.zero_le _) rfl
  simpa [spec_l01Weighted.f] using this
theorem sub_bit {c d : Nat} (h : d &&& c = c) {i : Nat} (hc : c.testBit i = true) : d.testBit i = true := by
  have := congrArg (fun x => x.testBit i) h
  simp only [Nat.testBit_and, hc, Bool.and_true] at this
  exact this
theorem weighB_mono (n : Nat) (ws : List Int) (q : Int) (hw : ∀ x ∈ ws, 0 ≤ x ∧ x ≤ 1000) : Mono n (weighB ws q) := by
  intro c d hc hd hs hp
  unfold weighB at *
  simp only [decide_eq_true_eq] at *
  have key : ∀ h, wbits ws c h ≤ wbits ws d h := by
    intro h
    induction h with
    | zero => simp [wbits]
    | succ h ih =>
      rw [wbits_succ, wbits_succ]
      have hx : 0 ≤ ws.getD h 0 := by
        rw [List.getD_eq_getElem?_getD]
        by_cases hl : h < ws.length
        · rw [List.getElem?_eq_getElem hl]
          have := hw _ (List.getElem_mem hl)
          simpa using this.1
        · rw [List.getElem?_eq_none (by omega)]; simp
      cases hcb : c.testBit h with
      | true => rw [sub_bit hs hcb, if_pos rfl]; omega
      | false =>
        rw [if_neg (by simp)]
        split <;> omega
  have := key ws.length
  omega

end Go.Proofs.Ytmeaffkgnmgmeaa.Ref
