/- The reference's source of numbers and weights. Contract of the reference's l01Drawn: a valid family, drawn from bytes. Contracts of the reference's A2Family and A2FamilyOf: valid families that are drawn from bytes. -/
import Derived.Test.YtgemfighmnnmeaaGreatRef
import Derived.Test.YtgemfighmnnmeaaGreatGx5
import Derived.Test.YtgemfighmnnmeaaGreatGx3
import Derived.Outline
import Derived.Test.YtgemfighmnnmeaaGreatGx3
namespace Go.Proofs.YtgemfighmnnmeaaGreat.Ref
open Go.RowKit Go.Proofs.YtgemfighmnnmeaaGreatW.PrintWords Go.Proofs.YtgemfighmnnmeaaGreatW.PrintMore Go.Proofs.YtgemfighmnnmeaaGreat.G Go.Proofs.YtgemfighmnnmeaaGreat.Fam Go.Proofs.YtgemfighmnnmeaaGreat.Loops Go.Proofs.YtgemfighmnnmeaaGreat.Bits Go.Proofs.YtgemfighmnnmeaaGreat.Valid Go.Proofs.YtgemfighmnnmeaaGreat.FamLaw Go.Proofs.YtgemfighmnnmeaaGreat.Ops Go.Proofs.YtgemfighmnnmeaaGreat.Opens Go.Proofs.YtgemfighmnnmeaaGreat.From
set_option linter.unusedVariables false
set_option maxRecDepth 100000

/-! ### the source of numbers -/
def Bytes (l : List Int) : Prop := ∀ x ∈ l, 0 ≤ x ∧ x < 256
theorem u64_nn (x : Int) : 0 ≤ IntKind.u64.wrap x := by
 have : IntKind.u64.wrap x = x % 18446744073709551616 := rfl
 rw [this]; omega
theorem u64_lt (x : Int) : IntKind.u64.wrap x < 18446744073709551616 := by
 have : IntKind.u64.wrap x = x % 18446744073709551616 := rfl
 rw [this]; omega
theorem and255 (a : Nat) (ha : a < 18446744073709551616) : Go.bits .and .u64 (a : Int) 255 = ((a &&& 255 : Nat) : Int) := u64_and_nat a 255 ha (by omega)
theorem low_byte {x : Int} (h0 : 0 ≤ x) (h1 : x < 18446744073709551616) : 0 ≤ wrap64 (Go.bits .and .u64 (x / 1099511627776) 255) ∧ wrap64 (Go.bits .and .u64 (x / 1099511627776) 255) < 256 := by
 obtain ⟨a, ha⟩ : ∃ a : Nat, x / 1099511627776 = (a : Int) := ⟨(x / 1099511627776).toNat, by omega⟩
 have hb : a &&& 255 ≤ 255 := Nat.and_le_right
 rw [ha, and255 a (by omega), wrap_id (by omega) (by omega)]
 omega
theorem next_ok (cd : List Int) (hb : Bytes cd) (at_ sd : Int) (h0 : 0 ≤ at_) (h1 : at_ < 100000) : ∃ r a2 s2, spec_l00Src_next.f cd at_ sd = some (r, a2, s2) ∧ 0 ≤ r ∧ r < 256 ∧ 0 ≤ a2 ∧ a2 ≤ at_ + 1 := by
 unfold spec_l00Src_next.f
 have hw : wrap64 (at_ + 1) = at_ + 1 := wrap_id (by omega) (by omega)
 rw [hw]
 by_cases h : at_ < (cd.length : Int)
 ·
  rw [if_pos h, if_pos h0]
  have hx := hb (rd cd at_) (by
   unfold rd
   rw [List.getD_eq_getElem?_getD, List.getElem?_eq_getElem (by omega)]
   exact List.getElem_mem _)
  by_cases h2 : at_ + 1 ≤ (cd.length : Int)
  ·
   rw [if_pos h2]
   exact ⟨_, _, _, rfl, by rw [wrap_id (by omega) (by omega)]; omega, by rw [wrap_id (by omega) (by omega)]; omega, by omega, by omega⟩
  ·
   rw [if_neg h2]
   have := low_byte (u64_nn ((IntKind.u64.wrap ((IntKind.u64.wrap (sd * 6364136223846793005)) + (IntKind.u64.wrap (wrap64 (rd cd at_))))) + 1442695040888963407)) (u64_lt _)
   exact ⟨_, _, _, rfl, this.1, this.2, by omega, by omega⟩
 ·
  rw [if_neg h]
  by_cases h2 : at_ + 1 ≤ (cd.length : Int)
  ·
   rw [if_pos h2]
   exact ⟨_, _, _, rfl, by omega, by omega, by omega, by omega⟩
  ·
   rw [if_neg h2]
   have := low_byte (u64_nn ((IntKind.u64.wrap ((IntKind.u64.wrap (sd * 6364136223846793005)) + 0)) + 1442695040888963407)) (u64_lt _)
   exact ⟨_, _, _, rfl, this.1, this.2, by omega, by omega⟩
theorem pick_ok (cd : List Int) (hb : Bytes cd) (at_ sd n : Int) (h0 : 0 ≤ at_) (h1 : at_ < 90000) (hn : 1 ≤ n) (hn2 : n ≤ 200) : ∃ r a2 s2, spec_l00Src_pick.f cd at_ sd n = some (r, a2, s2) ∧ 0 ≤ r ∧ r < n ∧ 0 ≤ a2 ∧ a2 ≤ at_ + 1 := by
 unfold spec_l00Src_pick.f
 by_cases h : n ≤ 1
 ·
  rw [if_pos h]; exact ⟨_, _, _, rfl, by omega, by omega, by omega, by omega⟩
 ·
  rw [if_neg h]
  obtain ⟨r, a2, s2, e, r0, r1, a0, a1⟩ := next_ok cd hb at_ sd h0 (by omega)
  rw [e]
  simp only [Option.bind_some]
  rw [if_neg (by omega), if_neg (by omega)]
  refine ⟨_, _, _, rfl, ?_, ?_, a0, a1⟩
  ·
   rw [Int.tmod_eq_emod_of_nonneg r0]; exact Int.emod_nonneg _ (by omega)
  ·
   rw [Int.tmod_eq_emod_of_nonneg r0]; exact Int.emod_lt_of_pos _ (by omega)
theorem one_ok (cd : List Int) (hb : Bytes cd) (at_ sd n : Int) (h0 : 0 ≤ at_) (h1 : at_ < 90000) (hn : 1 ≤ n) (hn2 : n ≤ 200) : ∃ b a2 s2, spec_l00Src_one.f cd at_ sd n = some (b, a2, s2) ∧ 0 ≤ a2 ∧ a2 ≤ at_ + 1 := by
 obtain ⟨r, a2, s2, e, _, _, a0, a1⟩ := pick_ok cd hb at_ sd n h0 h1 hn hn2
 unfold spec_l00Src_one.f
 rw [e]
 exact ⟨_, _, _, rfl, a0, a1⟩

/-! ### weights -/
theorem wsum_le (ws : List Int) (hw : ∀ x ∈ ws, 0 ≤ x ∧ x ≤ 4) : 0 ≤ ws.sum ∧ ws.sum ≤ 4 * ws.length := by
 induction ws with
 | nil => simp
 | cons a t ih =>
  have h1 := hw a (by simp)
  have h2 := ih (fun x hx => hw x (by simp [hx]))
  rw [List.sum_cons, List.length_cons]
  omega
/-- What a number's holders weigh, holder by holder. -/
def wbits (ws : List Int) (c h : Nat) : Int := ((List.range h).map fun i => if c.testBit i then ws.getD i 0 else 0).sum
theorem wbits_succ (ws : List Int) (c h : Nat) : wbits ws c (h + 1) = wbits ws c h + (if c.testBit h then ws.getD h 0 else 0) := by
 unfold wbits
 rw [List.range_succ, List.map_append, List.sum_append]
 simp
theorem wbits_bound (ws : List Int) (hw : ∀ x ∈ ws, 0 ≤ x ∧ x ≤ 1000) (c : Nat) : ∀ h, 0 ≤ wbits ws c h ∧ wbits ws c h ≤ 1000 * h := by
 intro h
 induction h with
 | zero => simp [wbits]
 | succ h ih =>
  rw [wbits_succ]
  have key : 0 ≤ ws.getD h 0 ∧ ws.getD h 0 ≤ 1000 := by
   rw [List.getD_eq_getElem?_getD]
   by_cases hl : h < ws.length
   ·
    rw [List.getElem?_eq_getElem hl]
    have := hw _ (List.getElem_mem hl)
    simpa using this
   ·
    rw [List.getElem?_eq_none (by omega)]; simp
  split <;> omega
def weighB (ws : List Int) (q : Int) (c : Nat) : Bool := decide (wbits ws c ws.length ≥ q)
theorem shr_bit {c h : Nat} (hc : c < 128) (hh : h < 7) : (Go.bits .and .i64 (shr .i64 (c : Int) (h : Int)) 1) = if c.testBit h then 1 else 0 := shr_all ⟨c, hc⟩ ⟨h, hh⟩
where shr_all : ∀ c : Fin 128, ∀ h : Fin 7, (Go.bits .and .i64 (shr .i64 ((c.val : Nat) : Int) ((h.val : Nat) : Int)) 1) = if c.val.testBit h.val then 1 else 0 := by decide +kernel
theorem weighted_in (ws : List Int) (q : Int) (hl : ws.length ≤ 7) (hw : ∀ x ∈ ws, 0 ≤ x ∧ x ≤ 1000) (c : Nat) (hc : c < 128) (x : List Bool) (hx : x.length ≤ 128) (r : Int × List (List Int)) (hn : Ev (fun k => spec_l01Weighted.l0 k ws q (x ++ [weighB ws q c]) ((c + 1 : Nat) : Int)) r) :
  ∀ (d h : Nat), h ≤ ws.length → ws.length - h = d → Ev (fun k => spec_l01Weighted.l1 k ws q x (c : Int) (wbits ws c h) (h : Int)) r := by
 intro d
 induction d with
 | zero =>
  intro h hh hd
  obtain rfl : h = ws.length := by omega
  refine Ev.step (fun k => ?_) hn
  simp only [spec_l01Weighted.l1]
  rw [if_neg (by omega), if_pos (by omega), wrap_id (by omega) (by omega)]
  rfl
 | succ d ih =>
  intro h hh hd
  have h1 := ih (h + 1) (by omega) (by omega)
  have hb := wbits_bound ws hw c (h + 1)
  rw [wbits_succ] at h1 hb
  refine Ev.step (fun k => ?_) h1
  simp only [spec_l01Weighted.l1]
  rw [if_pos (by omega), u64_small (by omega) (by omega), if_pos (by omega), shr_bit hc (by omega)]
  have hc1 : wrap64 ((h : Int) + 1) = ((h + 1 : Nat) : Int) := by rw [wrap_id (by omega) (by omega)]; omega
  rw [hc1]
  cases ht : c.testBit h with
  | true =>
   rw [ht, if_pos rfl] at hb
   rw [if_pos rfl, if_pos rfl, if_pos (by omega), rd_nat, wrap_id (by omega) (by omega), if_pos rfl]
  | false =>
   rw [if_neg (by simp), if_neg (by simp), Int.add_zero]
theorem weighted_out (ws : List Int) (q : Int) (hl : ws.length ≤ 7) (hw : ∀ x ∈ ws, 0 ≤ x ∧ x ≤ 1000) : ∀ (d c : Nat), c ≤ 2 ^ ws.length → 2 ^ ws.length - c = d →
  Ev (fun k => spec_l01Weighted.l0 k ws q ((List.range c).map (weighB ws q)) (c : Int)) ((ws.length : Int), famN ws.length (weighB ws q)) := by
 have h7 := two_pow_le hl
 intro d
 induction d with
 | zero =>
  intro c hc hd
  obtain rfl : c = 2 ^ ws.length := by omega
  have hf : FromF (ws.length : Int) ((List.range (2 ^ ws.length)).map (weighB ws q)) = some ((ws.length : Int), famN ws.length (weighB ws q)) := by
   unfold FromF
   rw [if_pos ⟨by omega, by simp⟩, Int.toNat_natCast]
   congr 2
   apply famN_congr
   intro c hc
   simp [tb, List.getD, hc]
  refine Ev.step (f := fun _ => some ((ws.length : Int), famN ws.length (weighB ws q))) (fun k => ?_) (Ev.now _)
  simp only [spec_l01Weighted.l0]
  rw [u64_small (by omega) (by omega), if_pos (by omega), shl1 hl, if_neg (Int.lt_irrefl _)]
  show (FromF (ws.length : Int) _).bind _ = _
  rw [hf]
  rfl
 | succ d ih =>
  intro c hc hd
  have h1 := ih (c + 1) (by omega) (by omega)
  rw [List.range_succ, List.map_append] at h1
  have h2 := weighted_in ws q hl hw c (by omega) ((List.range c).map (weighB ws q)) (by simp; omega) _ h1 ws.length 0 (by omega) (by omega)
  refine Ev.step (fun k => ?_) h2
  simp only [spec_l01Weighted.l0]
  rw [u64_small (by omega) (by omega), if_pos (by omega), shl1 hl, if_pos (Int.ofNat_lt.2 (by omega))]
  rfl
theorem weighted_is (ws : List Int) (q : Int) (hl : ws.length ≤ 7) (hw : ∀ x ∈ ws, 0 ≤ x ∧ x ≤ 1000) : Ev (fun k => spec_l01Weighted.f k ws q) ((ws.length : Int), famN ws.length (weighB ws q)) := by
 have := weighted_out ws q hl hw (2 ^ ws.length) 0 (Nat.zero_le _) rfl
 simpa [spec_l01Weighted.f] using this
theorem sub_bit {c d : Nat} (h : d &&& c = c) {i : Nat} (hc : c.testBit i = true) : d.testBit i = true := by
 have := congrArg (fun x => x.testBit i) h
 simp only [Nat.testBit_and, hc, Bool.and_true] at this
 exact this
theorem weighB_mono (n : Nat) (ws : List Int) (q : Int) (hw : ∀ x ∈ ws, 0 ≤ x ∧ x ≤ 1000) : Mono n (weighB ws q) := by
 intro c d hc hd hs hp
 unfold weighB at *
 simp only [decide_eq_true_eq] at *
 have key : ∀ h, wbits ws c h ≤ wbits ws d h := by
  intro h
  induction h with
  | zero => simp [wbits]
  | succ h ih =>
   rw [wbits_succ, wbits_succ]
   have hx : 0 ≤ ws.getD h 0 := by
    rw [List.getD_eq_getElem?_getD]
    by_cases hl : h < ws.length
    ·
     rw [List.getElem?_eq_getElem hl]
     have := hw _ (List.getElem_mem hl)
     simpa using this.1
    ·
     rw [List.getElem?_eq_none (by omega)]; simp
   cases hcb : c.testBit h with
   | true => rw [sub_bit hs hcb, if_pos rfl]; omega
   | false =>
    rw [if_neg (by simp)]
    split <;> omega
 have := key ws.length
 omega

end Go.Proofs.YtgemfighmnnmeaaGreat.Ref

namespace Go.Proofs.YtgemfighmnnmeaaGreat.Drawn
open Go.RowKit Go.Lib Go.Proofs Go.Proofs.YtgemfighmnnmeaaGreatW.PrintWords Go.Proofs.YtgemfighmnnmeaaGreatW.PrintWords.Kd Go.Proofs.YtgemfighmnnmeaaGreatW.PrintLast Go.Proofs.YtgemfighmnnmeaaGreatW.PrintMore Go.Proofs.YtgemfighmnnmeaaGreat.G Go.Proofs.YtgemfighmnnmeaaGreat.Fam Go.Proofs.YtgemfighmnnmeaaGreat.Loops Go.Proofs.YtgemfighmnnmeaaGreat.Bits Go.Proofs.YtgemfighmnnmeaaGreat.Sorting Go.Proofs.YtgemfighmnnmeaaGreat.Crowds Go.Proofs.YtgemfighmnnmeaaGreat.Idx Go.Proofs.YtgemfighmnnmeaaGreat.Valid Go.Proofs.YtgemfighmnnmeaaGreat.Opens Go.Proofs.YtgemfighmnnmeaaGreat.FamLaw Go.Proofs.YtgemfighmnnmeaaGreat.Ops Go.Proofs.YtgemfighmnnmeaaGreat.From Go.Proofs.YtgemfighmnnmeaaGreat.Ref
set_option linter.unusedVariables false
set_option linter.unusedSimpArgs false

/-! ### what is drawn, as plain functions over the source's pick -/
def weightsD (cd : List Int) : Nat → Int → Int → Option (List Int × Int × Int)
 | 0, a, s => some ([], a, s)
 | h + 1, a, s => (weightsD cd h a s).bind fun t => (spec_l00Src_pick.f cd t.2.1 t.2.2 5).bind fun x => some (t.1 ++ [x.1], x.2.1, x.2.2)
def groupsD (cd : List Int) (m : Int) : Nat → Int → Int → Option (List (List Int) × Int × Int)
 | 0, a, s => some ([], a, s)
 | j + 1, a, s => (groupsD cd m j a s).bind fun t => (spec_l00Src_pick.f cd t.2.1 t.2.2 m).bind fun x => some (t.1 ++ [groupN x.1.toNat], x.2.1, x.2.2)
def drawnF (cd : List Int) (n : Nat) (a s : Int) : Option (List (List Int) × Int × Int) :=
 (spec_l00Src_one.f cd a s 4).bind fun b => if b.1 = true then (weightsD cd n b.2.1 b.2.2).bind fun t => (spec_l00Src_pick.f cd t.2.1 t.2.2 (t.1.sum + 2)).bind fun q => some (famN n (weighB t.1 q.1), q.2.1, q.2.2)
  else (spec_l00Src_pick.f cd b.2.1 b.2.2 5).bind fun k => (groupsD cd ((2 ^ n : Nat) : Int) k.1.toNat k.2.1 k.2.2).bind fun t => some (famN n (openN t.1), t.2.1, t.2.2)

theorem int_info : (Tryz.prog.info? 2).map (fun i => (i.zero, i.size, i.bytes)) = some (some (.int .i64 0), 1, 8) := by kernel_rfl
theorem int_at {w : World} {A : Option Addr} {l : List Int} (h : Kd.C (Kd.int .i64) w A l.length l) {i : Nat} (hi : i < l.length) : ∃ ad, A = some ad ∧ w.cell? (ad.add i) = some (.int .i64 (l.getD i 0)) := by
 obtain ⟨ad, v, e, hc, hK⟩ := elem_at (d := Kd.int .i64) rfl h i hi
 refine ⟨ad, e, ?_⟩
 have h2 : [v] = [Value.int .i64 l[i]] := hK
 have : v = .int .i64 l[i] := by simpa using h2
 rw [hc, this]
 simp [List.getD, hi]
theorem w2_all : ∀ n : Fin 8, wrap64 (2 ^ n.val) = ((2 ^ n.val : Nat) : Int) := by decide +kernel
/-- A new empty row of numbers. -/
theorem R_empty (w : World) (base : Nat) (hb : base ≤ w.heap.size) : Kd.R (Kd.int .i64) 2 (w.alloc (.cells #[] 2)) base (fun _ => True) (.slice (some ⟨w.heap.size, 0, none⟩) 0 0) [] :=
 ⟨fun _ _ => trivial, [], ⟨by simp, .inr ⟨w.heap.size, 0, #[], rfl, hb, heap_alloc_new w _, Nat.le_refl _, Nat.zero_le _, by simp, by simp⟩⟩, Reps.none _ _⟩

theorem S_okb {α : Type} {d : Kd α} {e base : Nat} {w : World} {ok : Nat → Prop} {v : Value} {xs : List α} (h : Kd.S d e w base ok v xs) : ∀ k, v.ownBlock = some k → ok k := by
 obtain ⟨f, h0, _⟩ := h
 exact h0
set_option maxHeartbeats 4000000 in
set_option maxRecDepth 100000 in
theorem drawn_calls (cd : List Int) (hbytes : Bytes cd) (g : Nat) (a0 s0 : Int) (h0 : 0 ≤ a0) (h1 : a0 < 1000) (n : Nat) (hn1 : 1 ≤ n) (hn : n ≤ 7) (w0 w : World) (hI : IsS65 w0 w g cd a0 s0) (hB : Below w0.heap.size w0 w) (X : Nat → Prop) (OX : Nat → Obj) (hxg : ∀ x, X x → x ≠ g) (hV : ∀ x, X x → w.heap[x]? = some (OX x)) :
  Calls Tryz.prog 42 #[.pointer (some ⟨g, 0, none⟩), .int .i64 (n : Int)] w fun e w' => ∃ v gs a' s', e = .returned (.agg #[.int .i64 (n : Int), v]) ∧ drawnF cd n a0 s0 = some (gs, a', s') ∧ Kd.S dR 27 w' w.heap.size (fun _ => True) v gs ∧ IsS65 w0 w' g cd a' s' ∧ 0 ≤ a' ∧ a' ≤ a0 + 20 ∧ Below w0.heap.size w0 w' ∧ ∀ x, X x → w'.heap[x]? = some (OX x) := by
 have hu := Tryz.underlying26
 obtain ⟨b, a1, s1, e1, a10, a11⟩ := one_ok cd hbytes a0 s0 4 h0 (by omega) (by omega) (by omega)
 have hgw : g < w.heap.size := hI.lt
 have hsz0 : w0.heap.size ≤ w.heap.size := hB.size
 have HXW := Aside0.mk (fun x hx => blk_lt (hV x hx))
 have HXG := Aside0.mk hxg
 clear hxg
 have HV0 := Aside0.mk hV
 clear hV
 have HBY := Aside0.mk hbytes
 have HI := Aside0.mk hI
 have HB := Aside0.mk hB
 have HONE := fun W hi hb => spec_l00Src_one.calls g cd a0 s0 4 b a1 s1 w0 W hi hb e1
 have HD : Aside0 (drawnF cd n a0 s0 = if b = true then (weightsD cd n a1 s1).bind fun t => (spec_l00Src_pick.f cd t.2.1 t.2.2 (t.1.sum + 2)).bind fun q => some (famN n (weighB t.1 q.1), q.2.1, q.2.2)
  else (spec_l00Src_pick.f cd a1 s1 5).bind fun k => (groupsD cd ((2 ^ n : Nat) : Int) k.1.toNat k.2.1 k.2.2).bind fun t => some (famN n (openN t.1), t.2.1, t.2.2)) := ⟨by unfold drawnF; rw [e1]; rfl⟩
 clear hI hB hbytes e1
 cases b with
 | true =>
  go_enter Tryz.func42, Tryz.ntmps42
  go_wp2_with (go_at_call 41; refine (HONE _ (HI.out.alloc _) (HB.out.alloc (by simpa using hsz0) _)).mono ?_; rintro e w1 ⟨rfl, hi, hb, hk⟩; have HI1 := Aside0.mk hi; have HB1 := Aside0.mk hb; have HZ := Aside0.mk (hk.blk (blk_at (k := w.heap.size) rfl) (by omega) (by simp)); have HV := Aside0.mk (fun x (hx : X x) => hk.blk (blk_alloc (HV0.out x hx) _) (HXG.out x hx) (by simp)); clear hi hb hk)
  go_loopg [5, 6, 7] n (fun gg v5 v6 v7 wr => ∃ (h : Nat) (ws : List Int) (a s : Int) (u : Value), h ≤ n ∧ n - h ≤ gg ∧ v7 = .int .i64 (h : Int) ∧ u = v5 ∧ v6 = .int .i64 ws.sum ∧ Aside0 (weightsD cd h a1 s1 = some (ws, a, s)) ∧ Aside0 (ws.length = h) ∧ Aside0 (∀ x ∈ ws, 0 ≤ x ∧ x ≤ 4) ∧ Aside0 (0 ≤ a ∧ a ≤ a1 + h) ∧ Aside0 (Kd.R (Kd.int .i64) 2 wr w0.heap.size (fun k => w.heap.size ≤ k) u ws) ∧ Aside0 (IsS65 w0 wr g cd a s) ∧ Aside0 (Below w0.heap.size w0 wr) ∧ Aside0 (wr.heap[w.heap.size]? = some (.cells #[.int .i64 0, .slice none 0 0] 26 (0, 0))) ∧ Aside0 (∀ x, X x → wr.heap[x]? = some (OX x)))
  case atStart => exact ⟨0, [], a1, s1, _, Nat.zero_le _, by omega, rfl, rfl, rfl, ⟨rfl⟩, ⟨rfl⟩, ⟨by simp⟩, ⟨by omega⟩, ⟨R_lower (R_mono (R_bound (R_empty _ w.heap.size (Nat.le_of_lt (blk_lt HZ.out)))) (fun k hk => hk.2.1)) hsz0⟩, ⟨HI1.out.alloc _⟩, ⟨HB1.out.alloc HB1.out.size _⟩, ⟨blk_alloc HZ.out _⟩, ⟨fun x hx => blk_alloc (HV.out x hx) _⟩⟩
  case round =>
   obtain ⟨h, ws, a, s, u, hhn, hgg, rfl, rfl, rfl, HW, HL, HX, HA, HR, HI2, HB2, HZ2, HV2⟩ := hrel
   have hab := HA.out
   have hsum := wsum_le ws HX.out
   rw [HL.out] at hsum
   by_cases hlt : h < n
   ·
    have hltz : (h : Int) < (n : Int) := by omega
    obtain ⟨x, a2, s2, e2, x0, x1, a20, a21⟩ := pick_ok cd HBY.out a s 5 hab.1 (by omega) (by omega) (by omega)
    have HP := fun W hi hb => spec_l00Src_pick.calls g cd a s 5 x a2 s2 w0 W hi hb e2
    have HE2 := Aside0.mk e2
    obtain ⟨ys, hys⟩ : ∃ ys, ys = ws ++ [x] := ⟨_, rfl⟩
    have hyl : ys.length = h + 1 := by rw [hys]; simp [HL.out]
    have hyx : ys.getD h 0 = x := by rw [hys]; simp [List.getD, HL.out]
    have hysum : ys.sum = ws.sum + x := by rw [hys]; simp
    have hyz : (h : Int) < (ys.length : Int) := by rw [hyl]; omega
    have HYS := Aside0.mk hys
    have HYL := Aside0.mk hyl
    have HYX := Aside0.mk hyx
    have HYSUM := Aside0.mk hysum
    clear e2 hys hyl hyx hysum
    generalize ws.sum = sm at *
    have hlw : ws.length ≤ 7 := by have := HL.out; omega
    have HLW := Aside0.mk hlw
    clear hlw
    go_wp2_with (first | (go_at_call 43; refine (HP _ HI2.out HB2.out).mono ?_; rintro e w2 ⟨rfl, hi, hb, hk⟩; have HI3 := Aside0.mk hi; have HB3 := Aside0.mk hb; have HZ3 := Aside0.mk (hk.blk HZ2.out (by omega) (by simp)); have HV3 := Aside0.mk (fun x (hx : X x) => hk.blk (HV2.out x hx) (HXG.out x hx) (by simp)); have HR3 := Aside0.mk (R_mono (R_keep (IsS65.apart HI2.out HR.out (by decide)) hk (fun _ h => h.2)) (fun _ h => h.1)); clear hi hb hk) | (at_builtin; refine R_append (Kd.int .i64) (w0 := w0) (W := w2) w0.heap.size rfl (.tmp 19) (.tmp 22) 27 2 (.int .i64 0) 8 rfl Tryz.underlying27 int_info rfl (by decide) (by decide) u ws x [.int .i64 x] (fun k => w.heap.size ≤ k) (fun _ => False) rfl rfl rfl (fun _ hk => hk.elim) (fun k hk => Nat.le_trans (Nat.le_of_lt (blk_lt HZ3.out)) hk) HR3.out HB3.out HB3.out.size ?hl ?_; (case hl => have := HLW.out; omega); intro v3 w3 hR4 hB4 hg4 hat4; rw [← HYS.out] at hR4; have HI4 := Aside0.mk (IsS65.grown HI3.out hg4 (IsS65.own_ne HI3.out HR3.out (by decide))); have HZ4 := Aside0.mk (blk_grown HZ3.out hg4 (R_ne HR3.out HZ3.out (by decide))); have HV4 := Aside0.mk (fun x (hx : X x) => blk_grown (HV3.out x hx) hg4 (fun e_ => by have h1_ := HR3.out.1 x e_.symm; have h2_ := HXW.out x hx; omega)); have HR4 := Aside0.mk hR4; obtain ⟨A4, c4, rfl, hlc4, hC4⟩ := R_reads hR4; obtain ⟨ad4, rfl, hcell4⟩ := int_at hC4 (i := h) (by rw [HYL.out]; omega); rw [HYX.out] at hcell4; have HB4 := Aside0.mk hB4; clear hR4 hB4 hg4 hat4))
    go_roundg (n - (h + 1))
    case measure => omega
    case rel =>
     refine ⟨h + 1, ys, a2, s2, _, by omega, by omega, by go_num, rfl, by rw [HYSUM.out], ⟨?_⟩, HYL, ⟨?_⟩, ⟨by omega⟩, HR4, HI4, HB4, HZ4, HV4⟩
     ·
      rw [HYS.out]
      show (weightsD cd h a1 s1).bind _ = _
      rw [HW.out]
      show (spec_l00Src_pick.f cd a s 5).bind _ = _
      rw [HE2.out]
      rfl
     ·
      intro y hy
      rw [HYS.out, List.mem_append] at hy
      rcases hy with hy | hy
      ·
       exact HX.out y hy
      ·
       rw [List.mem_singleton] at hy; omega
   ·
    have hltz : ¬ (h : Int) < (n : Int) := by omega
    obtain rfl : h = n := by omega
    obtain ⟨q, a2, s2, e2, q0, q1, a20, a21⟩ := pick_ok cd HBY.out a s (ws.sum + 2) hab.1 (by omega) (by omega) (by omega)
    have HP := fun W hi hb => spec_l00Src_pick.calls g cd a s (ws.sum + 2) q a2 s2 w0 W hi hb e2
    obtain ⟨kk, hkk⟩ := (weighted_is ws q (by rw [HL.out]; exact hn) (fun x hx => by have := HX.out x hx; omega)).rounds
    have HWC := fun A c W hC hc => spec_l01Weighted.calls kk A c ws q _ _ W hC hc hkk
    rw [HL.out] at HWC
    have HF : Aside0 (drawnF cd h a0 s0 = some (famN h (weighB ws q), a2, s2)) := ⟨by
     rw [HD.out, if_pos trivial, HW.out]
     show (spec_l00Src_pick.f cd a s (ws.sum + 2)).bind _ = _
     rw [e2]
     rfl⟩
    clear e2 hkk
    generalize ws.sum = sm at *
    generalize hFF : famN h (weighB ws q) = F at *
    clear hFF
    go_wp2_with (first | (go_at_call 43; refine (HP _ HI2.out HB2.out).mono ?_; rintro e w2 ⟨rfl, hi, hb, hk⟩; have HI3 := Aside0.mk hi; have HB3 := Aside0.mk hb; have HZ3 := Aside0.mk (hk.blk HZ2.out (by omega) (by simp)); have HV3 := Aside0.mk (fun x (hx : X x) => hk.blk (HV2.out x hx) (HXG.out x hx) (by simp)); have HR3 := Aside0.mk (R_mono (R_keep (IsS65.apart HI2.out HR.out (by decide)) hk (fun _ h => h.2)) (fun _ h => h.1)); have hrd := R_reads HR3.out; rw [HL.out] at hrd; obtain ⟨A3, c3, rfl, hlc3, hC3⟩ := hrd; have HC3 := Aside0.mk hC3; have HLC3 := Aside0.mk hlc3; clear hi hb hk hC3 hlc3) | (go_at_call 55; refine (HWC _ _ _ HC3.out HLC3.out).mono ?_; rintro e w3 ⟨v3, rfl, hs3, hb3⟩; have HZ4 := Aside0.mk (blk_below HZ3.out hb3); have HV4 := Aside0.mk (fun x (hx : X x) => blk_below (HV3.out x hx) hb3); have z0 : w3.cell? ⟨w.heap.size, 0, none⟩ = some (.int .i64 0) := (blk_cell HZ4.out 0).trans rfl; have z1 : w3.cell? ⟨w.heap.size, 1, none⟩ = some (.slice none 0 0) := (blk_cell HZ4.out 1).trans rfl; have f0 := blk_frozen HZ4.out 0; have f1 := blk_frozen HZ4.out 1; obtain ⟨A5, c5, rfl⟩ := S_slice hs3; have HS := Aside0.mk hs3; have HI4 := Aside0.mk (HI3.out.below hb3); have HB4 := Aside0.mk (below_then HB3.out HB3.out.size hb3); clear hs3 hb3))
    have p0 := fun a b => put0 (a := a) (b := b) HZ4.out
    have p1 := fun a b => put1 (a := a) (b := b) HZ4.out
    refine bodyPost_ret (v := .agg #[.int .i64 (h : Int), .slice A5 F.length c5]) (by simp [results, Tryz.results42, go_sem, p0, p1]) rfl ⟨_, _, _, _, rfl, HF.out, S_put HZ4.out (S_lower HS.out (Nat.le_of_lt (blk_lt HZ3.out))), ?_, a20, by omega, below_set (below_set HB4.out hsz0) hsz0, ?_⟩
    ·
     exact (HI4.out.far (by simp; omega) _).far (by simp; omega) _
    ·
     intro x hx; have hxw := HXW.out x hx; rw [Below.heap_setCell _ _ _ _ (by simp; omega), Below.heap_setCell _ _ _ _ (by simp; omega)]; exact HV4.out x hx
 | false =>
  obtain ⟨k, ak, sk, ek, k0, k1, ak0, ak1⟩ := pick_ok cd HBY.out a1 s1 5 a10 (by omega) (by omega) (by omega)
  have HPK := fun W hi hb => spec_l00Src_pick.calls g cd a1 s1 5 k ak sk w0 W hi hb ek
  have HEK := Aside0.mk ek
  clear ek
  have hut := Tryz.underlying24
  have h7 : 2 ^ n ≤ 128 := two_pow_le hn
  have hpos : 1 ≤ 2 ^ n := Nat.one_le_two_pow
  have hsh : wrap64 (2 ^ n) = ((2 ^ n : Nat) : Int) := w2_all ⟨n, by omega⟩
  generalize hM : 2 ^ n = M at *
  have HM := Aside0.mk hM
  clear hM
  go_enter Tryz.func42, Tryz.ntmps42
  go_wp2_with (first | (go_at_call 41; refine (HONE _ (HI.out.alloc _) (HB.out.alloc (by simpa using hsz0) _)).mono ?_; rintro e w1 ⟨rfl, hi, hb, hk⟩; have HI1 := Aside0.mk hi; have HB1 := Aside0.mk hb; have HZ := Aside0.mk (hk.blk (blk_at (k := w.heap.size) rfl) (by omega) (by simp)); have HV := Aside0.mk (fun x (hx : X x) => hk.blk (blk_alloc (HV0.out x hx) _) (HXG.out x hx) (by simp)); clear hi hb hk) | (go_at_call 43; refine (HPK _ (HI1.out.alloc _) (HB1.out.alloc HB1.out.size _)).mono ?_; rintro e w2 ⟨rfl, hi, hb, hk⟩; have HI2 := Aside0.mk hi; have HB2 := Aside0.mk hb; have HZ2 := Aside0.mk (hk.blk (blk_alloc HZ.out _) (by omega) (by simp)); have HV2 := Aside0.mk (fun x (hx : X x) => hk.blk (blk_alloc (HV.out x hx) _) (HXG.out x hx) (by simp)); have HS2 := Aside0.mk (S_keep (S_mono (IsS65.apartS (HI1.out.alloc _) (S_lower (S_mono (S_bound (S_empty dR 27 w1 w.heap.size (Nat.le_of_lt (blk_lt HZ.out)))) (fun k hk => hk.2.1)) hsz0) (by decide)) (fun _ h => h)) hk (fun _ h => h.2)); clear hi hb hk))
  go_loopg [8, 9] k.toNat (fun gg v8 v9 wr => ∃ (j : Nat) (gs : List (List Int)) (a s : Int) (u : Value), (j : Int) ≤ k ∧ k.toNat - j ≤ gg ∧ v9 = .int .i64 (k - j) ∧ u = v8 ∧ Aside0 (groupsD cd (M : Int) j ak sk = some (gs, a, s)) ∧ Aside0 (gs.length = j) ∧ Aside0 (∀ x ∈ gs, ∃ c, c < M ∧ x = groupN c) ∧ Aside0 (0 ≤ a ∧ a ≤ ak + j) ∧ Aside0 (Kd.S dR 27 wr w0.heap.size (fun k => w.heap.size ≤ k) u gs) ∧ Aside0 (IsS65 w0 wr g cd a s) ∧ Aside0 (Below w0.heap.size w0 wr) ∧ Aside0 (wr.heap[w.heap.size]? = some (.cells #[.int .i64 0, .slice none 0 0] 26 (0, 0))) ∧ Aside0 (∀ x, X x → wr.heap[x]? = some (OX x)))
  case atStart => exact ⟨0, [], ak, sk, _, by omega, by omega, by simp, rfl, ⟨rfl⟩, ⟨rfl⟩, ⟨by simp⟩, ⟨by omega⟩, ⟨S_mono HS2.out (fun _ h => h.1)⟩, HI2, HB2, HZ2, HV2⟩
  case round =>
   obtain ⟨j, gs, a, s, u, hjk, hgg, rfl, rfl, HG, HL, HX, HA, HS, HI3, HB3, HZ3, HV3⟩ := hrel
   have hab := HA.out
   by_cases hlt : (j : Int) < k
   ·
    have hltz : (0 : Int) < k - (j : Int) := by omega
    obtain ⟨x, a2, s2, e2, x0, x1, a20, a21⟩ := pick_ok cd HBY.out a s (M : Int) hab.1 (by omega) (by omega) (by omega)
    obtain ⟨c, rfl⟩ : ∃ c : Nat, x = (c : Int) := ⟨x.toNat, by omega⟩
    have hc128 : c < 128 := by omega
    have HP := fun W hi hb => spec_l00Src_pick.calls g cd a s (M : Int) (c : Int) a2 s2 w0 W hi hb e2
    have HE2 := Aside0.mk e2
    have HLW : Aside0 (gs.length ≤ 10) := ⟨by rw [HL.out]; omega⟩
    clear e2
    have hOF := of_calls c hc128
    obtain ⟨gc, hgc⟩ : ∃ gc, gc = groupN c := ⟨_, rfl⟩
    rw [← hgc] at hOF
    have HGC := Aside0.mk hgc
    clear hgc
    go_wp2_with (first | (go_at_call 43; refine (HP _ HI3.out HB3.out).mono ?_; rintro e w3 ⟨rfl, hi, hb, hk⟩; have HI4 := Aside0.mk hi; have HB4 := Aside0.mk hb; have HZ4 := Aside0.mk (hk.blk HZ3.out (by omega) (by simp)); have HV4 := Aside0.mk (fun x (hx : X x) => hk.blk (HV3.out x hx) (HXG.out x hx) (by simp)); have HS4 := Aside0.mk (S_mono (S_keep (IsS65.apartS HI3.out HS.out (by decide)) hk (fun _ h => h.2)) (fun _ h => h.1)); clear hi hb hk) | (go_at_call 56; refine (hOF _).mono ?_; rintro e w4 ⟨v4, rfl, hr4, hb4⟩; obtain ⟨A4, c4, rfl⟩ := R_slice hr4; have HR4 := Aside0.mk hr4; have HB45 := Aside0.mk hb4; have HI5 := Aside0.mk (HI4.out.below hb4); have HZ5 := Aside0.mk (blk_below HZ4.out hb4); have HV5 := Aside0.mk (fun x (hx : X x) => blk_below (HV4.out x hx) hb4); have HB5 := Aside0.mk (below_then HB4.out HB4.out.size hb4); clear hr4 hb4) | (at_builtin; refine S_append dR (w0 := w0) (W := w4) w0.heap.size rfl (.tmp 43) (.tmp 50) 24 27 (.slice none 0 0) 24 rfl hut infoR rfl (by decide) (by decide) u gs gc [.slice A4 gc.length c4] (fun k => w.heap.size ≤ k) (fun k => w3.heap.size ≤ k) rfl rfl ?h1 ?h2 ?h3 ?h4 ?h5 ?h6 ?h7 ?_; (case h1 => exact ⟨_, rfl, R_mono (R_lower (R_bound HR4.out) HB4.out.size) (fun k hk => hk.2.1)⟩); (case h2 => exact fun k hk => ⟨by have h1_ := blk_lt HZ4.out; have hk_ : w3.heap.size ≤ k := hk; omega, fun e => by have := S_lt HS4.out k e.symm; omega⟩); (case h3 => exact fun k hk => Nat.le_trans (Nat.le_of_lt (blk_lt HZ5.out)) hk); (case h4 => exact S_mono (S_old HS4.out HB45.out) (fun k hk => ⟨hk.1, by have := hk.2; omega⟩)); (case h5 => exact HB5.out); (case h6 => exact HB5.out.size); (case h7 => have := HLW.out; omega); intro v6 w6 hS6 hB6 hg6 hat6; have HS6 := Aside0.mk hS6; have HB6 := Aside0.mk hB6; have HI6 := Aside0.mk (IsS65.grown HI5.out hg6 (IsS65.own_neS HI5.out (S_below HS4.out HB45.out) (by decide))); have HZ6 := Aside0.mk (blk_grown HZ5.out hg6 (S_ne (S_below HS4.out HB45.out) HZ5.out (by decide))); have HV6 := Aside0.mk (fun x (hx : X x) => blk_grown (HV5.out x hx) hg6 (fun e_ => by have h1_ := S_okb HS4.out x e_.symm; have h2_ := HXW.out x hx; omega)); clear hS6 hB6 hg6 hat6))
    go_roundg (k.toNat - (j + 1))
    case measure => omega
    case rel =>
     refine ⟨j + 1, _, a2, s2, _, by omega, by omega, ?_, rfl, ⟨?_⟩, ⟨?_⟩, ⟨?_⟩, ⟨by omega⟩, HS6, HI6, HB6, HZ6, HV6⟩
     ·
      congr 1; omega
     ·
      show (groupsD cd (M : Int) j ak sk).bind _ = _
      rw [HG.out]
      show (spec_l00Src_pick.f cd a s (M : Int)).bind _ = _
      rw [HE2.out, HGC.out]
      rfl
     ·
      simp [HL.out]
     ·
      intro y hy
      rw [List.mem_append] at hy
      rcases hy with hy | hy
      ·
       exact HX.out y hy
      ·
       rw [List.mem_singleton] at hy; exact ⟨c, by omega, by rw [hy, HGC.out]⟩
   ·
    have hltz : ¬ (0 : Int) < k - (j : Int) := by omega
    have hjk2 : k.toNat = j := by omega
    have hsm : Smalls gs := fun x hx => by
     obtain ⟨c, hc, rfl⟩ := HX.out x hx
     intro y hy
     have := (groupN_is (n := 7) (by omega) (show c < 2 ^ 7 by omega)).1 y hy
     omega
    have hlens : ∀ x ∈ gs, x.length ≤ 9223372036854775807 := fun x hx => by
     obtain ⟨c, hc, rfl⟩ := HX.out x hx
     have := List.length_filter_le c.testBit (List.range 7)
     unfold groupN
     rw [List.length_map]
     have h2 : (List.range 7).length = 7 := by simp
     omega
    obtain ⟨kk, hkk⟩ := (table_is n hn gs hsm hlens (by rw [HL.out]; omega)).rounds
    have HT := fun gb W0 W hi hb => spec_l01Table.calls kk gb (n : Int) gs _ _ W0 W hi hb hkk
    have HFR := fun A c W hC hc => from_calls n hn A c (tableN n gs) W (by rw [tableN_len]) hC hc
    have hfam : famN n (tb (tableN n gs)) = famN n (openN gs) := famN_congr (fun c hc => tableN_at hc)
    rw [hfam] at HFR
    have HF : Aside0 (drawnF cd n a0 s0 = some (famN n (openN gs), a, s)) := ⟨by
     rw [HD.out, if_neg (by simp), HEK.out]
     show (groupsD cd (M : Int) k.toNat ak sk).bind _ = _
     rw [hjk2, HG.out]
     rfl⟩
    clear hkk hfam hsm hlens
    obtain ⟨A6, c6, rfl⟩ := S_slice HS.out
    generalize hTT : tableN n gs = T at *
    clear hTT
    generalize hFF : famN n (openN gs) = F at *
    clear hFF
    have HCG := Aside0.mk (S_reads' HS.out).2.2
    go_wp2_with (first | (go_at_call 58; refine (HT wr.heap.size wr _ ⟨A6, c6, blk_at rfl, Nat.le_refl _, HCG.out⟩ (below_alloc (Below.refl _ _) _)).mono ?_; rintro e w5 ⟨v5, rfl, hr5, _, hb5, _⟩; obtain ⟨A7, c7, rfl, hlc7, hC7⟩ := R_reads hr5; have HC7 := Aside0.mk hC7; have HLC7 := Aside0.mk hlc7; have HI5 := Aside0.mk (HI3.out.below hb5); have HZ5 := Aside0.mk (blk_below HZ3.out hb5); have HV5 := Aside0.mk (fun x (hx : X x) => blk_below (HV3.out x hx) hb5); have HB5 := Aside0.mk (below_then HB3.out HB3.out.size hb5); clear hr5 hb5 hC7 hlc7) | (go_at_call 57; refine (HFR _ _ _ HC7.out HLC7.out).mono ?_; rintro e w6 ⟨v6, rfl, hs6, hb6⟩; have HZ4 := Aside0.mk (blk_below HZ5.out hb6); have HV4 := Aside0.mk (fun x (hx : X x) => blk_below (HV5.out x hx) hb6); have z0 : w6.cell? ⟨w.heap.size, 0, none⟩ = some (.int .i64 0) := (blk_cell HZ4.out 0).trans rfl; have z1 : w6.cell? ⟨w.heap.size, 1, none⟩ = some (.slice none 0 0) := (blk_cell HZ4.out 1).trans rfl; have f0 := blk_frozen HZ4.out 0; have f1 := blk_frozen HZ4.out 1; obtain ⟨A8, c8, rfl⟩ := S_slice hs6; have HS8 := Aside0.mk hs6; have HI4 := Aside0.mk (HI5.out.below hb6); have HB4 := Aside0.mk (below_then HB5.out HB5.out.size hb6); clear hs6 hb6))
    have p0 := fun a b => put0 (a := a) (b := b) HZ4.out
    have p1 := fun a b => put1 (a := a) (b := b) HZ4.out
    refine bodyPost_ret (v := .agg #[.int .i64 (n : Int), .slice A8 F.length c8]) (by simp [results, Tryz.results42, go_sem, p0, p1]) rfl ⟨_, _, _, _, rfl, HF.out, S_put HZ4.out (S_lower HS8.out (Nat.le_of_lt (blk_lt HZ5.out))), ?_, hab.1, by omega, below_set (below_set HB4.out hsz0) hsz0, ?_⟩
    ·
     exact (HI4.out.far (by simp; omega) _).far (by simp; omega) _
    ·
     intro x hx; have hxw := HXW.out x hx; rw [Below.heap_setCell _ _ _ _ (by simp; omega), Below.heap_setCell _ _ _ _ (by simp; omega)]; exact HV4.out x hx

end Go.Proofs.YtgemfighmnnmeaaGreat.Drawn

namespace Go.Proofs.YtgemfighmnnmeaaGreat.Some
open Go.RowKit Go.Lib Go.Proofs Go.Proofs.YtgemfighmnnmeaaGreatW.PrintWords Go.Proofs.YtgemfighmnnmeaaGreatW.PrintWords.Kd Go.Proofs.YtgemfighmnnmeaaGreatW.PrintLast Go.Proofs.YtgemfighmnnmeaaGreatW.PrintMore Go.Proofs.YtgemfighmnnmeaaGreat.G Go.Proofs.YtgemfighmnnmeaaGreat.Fam Go.Proofs.YtgemfighmnnmeaaGreat.Loops Go.Proofs.YtgemfighmnnmeaaGreat.Bits Go.Proofs.YtgemfighmnnmeaaGreat.Sorting Go.Proofs.YtgemfighmnnmeaaGreat.Crowds Go.Proofs.YtgemfighmnnmeaaGreat.Idx Go.Proofs.YtgemfighmnnmeaaGreat.Valid Go.Proofs.YtgemfighmnnmeaaGreat.Opens Go.Proofs.YtgemfighmnnmeaaGreat.FamLaw Go.Proofs.YtgemfighmnnmeaaGreat.Ops Go.Proofs.YtgemfighmnnmeaaGreat.From Go.Proofs.YtgemfighmnnmeaaGreat.Ref Go.Proofs.YtgemfighmnnmeaaGreat.Drawn
set_option linter.unusedVariables false
set_option linter.unusedSimpArgs false

/-! ### what is drawn is valid -/
theorem weightsD_ok (cd : List Int) (hb : Bytes cd) (a s : Int) (h0 : 0 ≤ a) (h1 : a < 2000) : ∀ h : Nat, h ≤ 7 → ∃ ws a' s', weightsD cd h a s = some (ws, a', s') ∧ ws.length = h ∧ (∀ x ∈ ws, 0 ≤ x ∧ x ≤ 4) ∧ 0 ≤ a' ∧ a' ≤ a + h := by
 intro h
 induction h with
 | zero => exact fun _ => ⟨[], a, s, rfl, rfl, by simp, h0, by omega⟩
 | succ h ih =>
  intro hh
  obtain ⟨ws, a', s', e, hl, hx, a0, a1⟩ := ih (by omega)
  obtain ⟨x, a2, s2, e2, x0, x1, a20, a21⟩ := pick_ok cd hb a' s' 5 a0 (by omega) (by omega) (by omega)
  refine ⟨ws ++ [x], a2, s2, ?_, by simp [hl], ?_, a20, by omega⟩
  ·
   show (weightsD cd h a s).bind _ = _
   rw [e]
   show (spec_l00Src_pick.f cd a' s' 5).bind _ = _
   rw [e2]
   rfl
  ·
   intro y hy
   rw [List.mem_append] at hy
   rcases hy with hy | hy
   ·
    exact hx y hy
   ·
    rw [List.mem_singleton] at hy; omega
theorem groupsD_ok (cd : List Int) (hb : Bytes cd) (M : Nat) (hM : 1 ≤ M ∧ M ≤ 128) (a s : Int) (h0 : 0 ≤ a) (h1 : a < 2000) : ∀ j : Nat, j ≤ 7 → ∃ gs a' s', groupsD cd (M : Int) j a s = some (gs, a', s') ∧ (∀ x ∈ gs, ∃ c, c < M ∧ x = groupN c) ∧ 0 ≤ a' ∧ a' ≤ a + j := by
 intro j
 induction j with
 | zero => exact fun _ => ⟨[], a, s, rfl, by simp, h0, by omega⟩
 | succ j ih =>
  intro hh
  obtain ⟨gs, a', s', e, hx, a0, a1⟩ := ih (by omega)
  obtain ⟨x, a2, s2, e2, x0, x1, a20, a21⟩ := pick_ok cd hb a' s' (M : Int) a0 (by omega) (by omega) (by omega)
  refine ⟨gs ++ [groupN x.toNat], a2, s2, ?_, ?_, a20, by omega⟩
  ·
   show (groupsD cd (M : Int) j a s).bind _ = _
   rw [e]
   show (spec_l00Src_pick.f cd a' s' (M : Int)).bind _ = _
   rw [e2]
   rfl
  ·
   intro y hy
   rw [List.mem_append] at hy
   rcases hy with hy | hy
   ·
    exact hx y hy
   ·
    rw [List.mem_singleton] at hy; exact ⟨x.toNat, by omega, hy⟩
theorem drawn_ok (cd : List Int) (hb : Bytes cd) (n : Nat) (hn1 : 1 ≤ n) (hn : n ≤ 7) (a s : Int) (h0 : 0 ≤ a) (h1 : a < 1000) : ∃ gs a' s', drawnF cd n a s = some (gs, a', s') ∧ ValidF (n : Int) gs := by
 have h7 : 2 ^ n ≤ 128 := two_pow_le hn
 obtain ⟨b, a1, s1, e1, a10, a11⟩ := one_ok cd hb a s 4 h0 (by omega) (by omega) (by omega)
 unfold drawnF
 rw [e1]
 simp only [Option.bind_some]
 cases b with
 | true =>
  rw [if_pos rfl]
  obtain ⟨ws, a2, s2, e2, hl, hx, a20, a21⟩ := weightsD_ok cd hb a1 s1 a10 (by omega) n hn
  rw [e2]
  simp only [Option.bind_some]
  have hs := wsum_le ws hx
  obtain ⟨q, a3, s3, e3, _, _, _, _⟩ := pick_ok cd hb a2 s2 (ws.sum + 2) a20 (by omega) (by omega) (by omega)
  rw [e3]
  exact ⟨_, _, _, rfl, famN_valid hn1 hn (weighB_mono n ws q (fun x hx' => by have := hx x hx'; omega))⟩
 | false =>
  rw [if_neg (by simp)]
  obtain ⟨k, a2, s2, e2, k0, k1, a20, a21⟩ := pick_ok cd hb a1 s1 5 a10 (by omega) (by omega) (by omega)
  rw [e2]
  simp only [Option.bind_some]
  obtain ⟨gs, a3, s3, e3, hx, _, _⟩ := groupsD_ok cd hb (2 ^ n) ⟨Nat.one_le_two_pow, h7⟩ a2 s2 a20 (by omega) k.toNat (by omega)
  rw [e3]
  refine ⟨_, _, _, rfl, famN_valid hn1 hn (openN_mono hn fun g hg => ?_)⟩
  obtain ⟨c, hc, rfl⟩ := hx g hg
  exact groupN_is hn hc

/-! ### A2FamilyOf and A2Family -/
instance (l : List Int) : Decidable (Bytes l) := by unfold Bytes; exact inferInstance
def famOfF (cd : List Int) (n : Int) : Option (Int × List (List Int)) := if Bytes cd ∧ 1 ≤ n ∧ n ≤ 7 then (drawnF cd n.toNat 0 0).map fun r => (n, r.1) else none
def famF (cd : List Int) : Option (Int × List (List Int)) := if Bytes cd then (spec_l00Src_pick.f cd 0 0 5).bind fun t => (drawnF cd (1 + t.1).toNat t.2.1 t.2.2).map fun r => (1 + t.1, r.1) else none
theorem famOfF_ok (cd : List Int) (hb : Bytes cd) (n : Int) (h1 : 1 ≤ n) (h7 : n ≤ 7) : ∃ gs, famOfF cd n = some (n, gs) ∧ ValidF n gs := by
 obtain ⟨gs, a', s', e, hv⟩ := drawn_ok cd hb n.toNat (by omega) (by omega) 0 0 (by omega) (by omega)
 unfold famOfF
 rw [if_pos ⟨hb, h1, h7⟩, e]
 refine ⟨gs, rfl, ?_⟩
 rwa [show ((n.toNat : Nat) : Int) = n by omega] at hv
theorem famF_ok (cd : List Int) (hb : Bytes cd) : ∃ n gs, famF cd = some (n, gs) ∧ 1 ≤ n ∧ n ≤ 5 ∧ ValidF n gs := by
 obtain ⟨x, a2, s2, e2, x0, x1, a20, a21⟩ := pick_ok cd hb 0 0 5 (by omega) (by omega) (by omega) (by omega)
 obtain ⟨gs, a', s', e, hv⟩ := drawn_ok cd hb (1 + x).toNat (by omega) (by omega) a2 s2 a20 (by omega)
 unfold famF
 rw [if_pos hb, e2]
 simp only [Option.bind_some]
 rw [e]
 refine ⟨1 + x, gs, rfl, by omega, by omega, ?_⟩
 rwa [show (((1 + x).toNat : Nat) : Int) = 1 + x by omega] at hv

theorem from0 (cd : List Int) : spec_l00From.f cd = some (cd, 0, 0) := rfl

end Go.Proofs.YtgemfighmnnmeaaGreat.Some
