/- Contract of the reference's l06Sort: it puts rows in order; the rows' own slices stay where they are. Contract of the reference's l06Sort at rows of the call's own: they end in order. -/
import Derived.Test.YtdahdeohmbadhaaTShape
import Derived.Test.YtdahdeohmbadhaaTSort
namespace Go.Proofs.Ytdahdeohmbadhaa.TMerge
open Go.RowKit Go.Lib Go.Proofs Go.Proofs.YtdahdeohmbadhaaW.PrintWords Go.Proofs.YtdahdeohmbadhaaW.PrintWords.Kd Go.Proofs.YtdahdeohmbadhaaW.PrintLast Go.Proofs.YtdahdeohmbadhaaW.PrintMore Go.Proofs.Ytdahdeohmbadhaa.G Go.Proofs.Ytdahdeohmbadhaa.Fam Go.Proofs.Ytdahdeohmbadhaa.Loops Go.Proofs.Ytdahdeohmbadhaa.MarkT Go.Proofs.Ytdahdeohmbadhaa.TSort Go.Proofs.Ytdahdeohmbadhaa.TCmp Go.Proofs.Ytdahdeohmbadhaa.TLess Go.Proofs.Ytdahdeohmbadhaa.TShape Go.Proofs.Ytdahdeohmbadhaa.TOk
set_option linter.unusedVariables false
set_option linter.unusedSimpArgs false

section
variable {α : Type} (key : α → Row) (enc : α → List Value)
def leK (p q : α) : Bool := leT (key p) (key q)
theorem leK_iff (p q : α) : leK key p q = true ↔ ¬ cmpT (key q) (key p) < 0 := by
 unfold leK leT leOf
 simp
theorem merge_left {le : α → α → Bool} {ps qs : List α} {i k : Nat} (hi : i < ps.length) (hk : k ≤ qs.length) (h : ∀ hk : k < qs.length, le ps[i] qs[k] = true) :
  List.merge (ps.drop i) (qs.drop k) le = ps[i] :: List.merge (ps.drop (i + 1)) (qs.drop k) le := by
 rw [List.drop_eq_getElem_cons hi]
 by_cases e : k < qs.length
 ·
  rw [List.drop_eq_getElem_cons e, List.cons_merge_cons, if_pos (h e)]
 ·
  rw [List.drop_eq_nil_of_le (show qs.length ≤ k by omega)]
  simp
theorem merge_right {le : α → α → Bool} {ps qs : List α} {i k : Nat} (hk : k < qs.length) (h : ∀ hi : i < ps.length, ¬ le ps[i] qs[k] = true) :
  List.merge (ps.drop i) (qs.drop k) le = qs[k] :: List.merge (ps.drop i) (qs.drop (k + 1)) le := by
 by_cases e : i < ps.length
 ·
  rw [List.drop_eq_getElem_cons hk, List.drop_eq_getElem_cons e, List.cons_merge_cons, if_neg (h e)]
 ·
  rw [List.drop_eq_nil_of_le (show ps.length ≤ i by omega), List.drop_eq_getElem_cons hk]
  simp

/-- What the cells of a row are. -/
def KeyAt (W : World) (p : α) : Prop := ∃ A c, enc p = [.int .i64 (key p).f0, .slice A (key p).f1.length c] ∧ (key p).f1.length ≤ c ∧ Kd.C (Kd.int .i64) W A (key p).f1.length (key p).f1
variable {key enc}
theorem KeyAt.later {W W' : World} {p : α} (h : KeyAt key enc W p) (hb : Below W.heap.size W W') : KeyAt key enc W' p := by
 obtain ⟨A, c, h1, h2, h3⟩ := h
 exact ⟨A, c, h1, h2, Kd.C_below h3 hb⟩
variable (key enc)
def Keyed (W : World) (xs : List α) : Prop := ∀ p ∈ xs, KeyAt key enc W p
/-- Cells of rows, to read. -/
def RawC (W : World) (A : Option Addr) (xs : List α) : Prop := Kd.C (raw 2) W A xs.length (xs.map enc)
variable {key enc}
theorem Keyed.later {W W' : World} {xs : List α} (h : Keyed key enc W xs) (hb : Below W.heap.size W W') : Keyed key enc W' xs := fun p hp => (h p hp).later hb
theorem RawC.later {W W' : World} {A : Option Addr} {xs : List α} (h : RawC enc W A xs) (hb : Below W.heap.size W W') : RawC enc W' A xs := Kd.C_below h hb
theorem RawC.big {W : World} {A : Option Addr} {xs : List α} (h : RawC enc W A xs) : xs.length ≤ 9223372036854775807 := by have := h.2.1; simpa using this
theorem raw_take {W : World} {A : Option Addr} {xs : List α} (h : RawC enc W A xs) {m : Nat} (hm : m ≤ xs.length) : RawC enc W A (xs.take m) := by
 unfold RawC at h
 have e : Kd.C (raw 2) W A (xs.map enc).length (xs.map enc) := by rw [List.length_map]; exact h
 have := Kd.C_take (m := m) e (by rw [List.length_map]; exact hm)
 unfold RawC
 rwa [← List.map_take, List.length_map] at this
theorem raw_drop {W : World} {A : Option Addr} {xs : List α} (h : RawC enc W A xs) {m c : Nat} (hm : m < xs.length) (hc : xs.length ≤ c) : RawC enc W (A.map (·.add (m * 2))) (xs.drop m) := by
 unfold RawC at h
 have e : Kd.C (raw 2) W A (xs.map enc).length (xs.map enc) := by rw [List.length_map]; exact h
 have := Kd.C_drop (m := m) (c := c) e (by rw [List.length_map]; omega) (by rw [List.length_map]; exact hc)
 rw [if_neg (by omega)] at this
 unfold RawC
 rwa [← List.map_drop, List.length_map] at this
/-- A row at an address, with its cells. -/
def RowC (W : World) (b o : Nat) (p : α) : Prop := ∃ A c, enc p = [.int .i64 (key p).f0, .slice A (key p).f1.length c] ∧ W.cell? ⟨b, o, none⟩ = some (.int .i64 (key p).f0) ∧ W.cell? ⟨b, o + 1, none⟩ = some (.slice A (key p).f1.length c)
theorem raw_rows {W : World} {A : Option Addr} {xs : List α} (h : RawC enc W A xs) (hK : Keyed key enc W xs) (hpos : 0 < xs.length) : ∃ b o, A = some ⟨b, o, none⟩ ∧ ∀ i (hi : i < xs.length), RowAt W b (o + i * 2) (key xs[i]) ∧ RowC (key := key) (enc := enc) W b (o + i * 2) xs[i] := by
 obtain ⟨ad, rfl, hc⟩ := h.2.2 hpos
 obtain ⟨b, o, sub⟩ := ad
 have hcell : ∀ i (hi : i < xs.length), ∃ A8 c8, enc xs[i] = [.int .i64 (key xs[i]).f0, .slice A8 (key xs[i]).f1.length c8] ∧ (key xs[i]).f1.length ≤ c8 ∧ Kd.C (Kd.int .i64) W A8 (key xs[i]).f1.length (key xs[i]).f1 ∧ W.cell? ((⟨b, o, sub⟩ : Addr).add (i * 2)) = some (.int .i64 (key xs[i]).f0) ∧ W.cell? ((⟨b, o, sub⟩ : Addr).add (i * 2 + 1)) = some (.slice A8 (key xs[i]).f1.length c8) := by
  intro i hi
  obtain ⟨A8, c8, e, h1, h2⟩ := hK xs[i] (List.getElem_mem hi)
  obtain ⟨cs, hl, hR, hu⟩ := hc i (enc xs[i]) (by rw [List.getElem?_map, List.getElem?_eq_getElem hi]; rfl)
  obtain ⟨rfl, _, _⟩ := hR
  refine ⟨A8, c8, e, h1, h2, ?_, ?_⟩
  ·
   have := hu 0 (.int .i64 (key xs[i]).f0) (by rw [e]; rfl)
   rw [show (raw 2).sz = 2 from rfl] at this
   simpa using this
  ·
   have := hu 1 (.slice A8 (key xs[i]).f1.length c8) (by rw [e]; rfl)
   rw [show (raw 2).sz = 2 from rfl] at this
   simpa using this
 have hsub : sub = none := by
  cases sub with
  | none => rfl
  | some s =>
   exfalso
   obtain ⟨_, _, _, _, _, hx0, _⟩ := hcell 0 hpos
   simp [World.cell?, Addr.add] at hx0
   split at hx0 <;> cases hx0
 subst hsub
 have hadd : ∀ j, (⟨b, o, none⟩ : Addr).add j = ⟨b, o + j, none⟩ := fun j => by unfold Addr.add; split <;> simp_all
 refine ⟨b, o, rfl, fun i hi => ?_⟩
 obtain ⟨A8, c8, e, h1, h2, h3, h4⟩ := hcell i hi
 rw [hadd] at h3 h4
 rw [← Nat.add_assoc] at h4
 exact ⟨⟨h3, A8, c8, h4, h1, h2⟩, A8, c8, e, h3, h4⟩
end

section
variable {α : Type} {key : α → Row} {enc : α → List Value}
/-- What l06Sort leaves. -/
def Sorted (key : α → Row) (enc : α → List Value) (W w' : World) (xs : List α) (A : Option Addr) (c : Nat) (A' : Option Addr) (c' : Nat) (ys : List α) : Prop :=
 ys.length ≤ c' ∧ ys.Perm xs ∧ ys.Pairwise (fun p q => leK key p q = true) ∧ RawC enc w' A' ys ∧ Keyed key enc w' ys ∧ Below W.heap.size W w' ∧ (xs.length < 2 → A' = A ∧ c' = c ∧ ys = xs) ∧ (2 ≤ xs.length → Kd.R (raw 2) 87 w' W.heap.size (fun _ => True) (.slice A' ys.length c') (ys.map enc))

set_option maxHeartbeats 8000000 in
set_option maxRecDepth 100000 in
theorem lsort_calls : ∀ (n : Nat) (xs : List α) (A : Option Addr) (c : Nat) (W : World), xs.length ≤ n → xs.length ≤ 1048576 → xs.length ≤ c → RawC enc W A xs → Keyed key enc W xs →
  Calls Try.prog 63 #[.slice A xs.length c] W fun e w' => ∃ A' c' ys, e = .returned (.slice A' ys.length c') ∧ Sorted key enc W w' xs A c A' c' ys := by
 have hu2 := Try.underlying87
 have hut := Try.underlying25
 obtain ⟨i2, hi2, hz2, hsz2, hbt2⟩ := info_parts info87
 have infoW := info87
 intro n
 induction n with
 | zero =>
  intro xs A c W hn hbig hc hC hK
  obtain rfl : xs = [] := List.length_eq_zero_iff.1 (by omega)
  have HC := Aside0.mk hC
  have HK := Aside0.mk hK
  clear hC hK hn hbig
  go_enter Try.func63, Try.ntmps63
  go_wp2_with (fail)
  go_ret
  exact ⟨A, c, [], rfl, hc, List.Perm.refl _, List.Pairwise.nil, HC.out, HK.out, Go.RowKit.Below.refl _ _, fun _ => ⟨rfl, rfl, rfl⟩, fun h => by simp at h⟩
 | succ n ih =>
  intro xs A c W hn hbig hc hC hK
  by_cases h2 : xs.length < 2
  ·
   have hlt : (xs.length : Int) < 2 := by omega
   have HC := Aside0.mk hC
   have HK := Aside0.mk hK
   clear hC hK hn hbig ih
   go_enter Try.func63, Try.ntmps63
   go_wp2_with (fail)
   go_ret
   exact ⟨A, c, xs, rfl, hc, List.Perm.refl _, by
    match xs, h2 with
    | [], _ => exact List.Pairwise.nil
    | [a], _ => exact List.pairwise_singleton _ _
    | a :: b :: l, h => simp at h; omega, HC.out, HK.out, Go.RowKit.Below.refl _ _, fun _ => ⟨rfl, rfl, rfl⟩, fun h => by omega⟩
  ·
   have hlt : ¬ (xs.length : Int) < 2 := by omega
   have hdiv : (xs.length : Int).tdiv 2 = ((xs.length / 2 : Nat) : Int) := by rw [Int.tdiv_eq_ediv_of_nonneg (by omega)]; omega
   generalize hm : xs.length / 2 = m at *
   have hm1 : m < xs.length := by omega
   have hm0 : 1 ≤ m := by omega
   have hn1 : m ≤ n := by omega
   have hn2 : xs.length - m ≤ n := by omega
   have HW1 := Aside0.mk (ih (xs.take m) A c W (by rw [List.length_take]; omega) (by rw [List.length_take]; omega) (by rw [List.length_take]; omega) (raw_take hC (by omega)) (fun p hp => hK p (List.mem_of_mem_take hp)))
   have HW2 := fun w' (hb : Below W.heap.size W w') => ih (xs.drop m) (A.map (·.add (m * 2))) (c - m) w' (by rw [List.length_drop]; omega) (by rw [List.length_drop]; omega) (by rw [List.length_drop]; omega) ((raw_drop hC hm1 hc).later hb) (fun p hp => (hK p (List.mem_of_mem_drop hp)).later hb)
   have hl1 : (xs.take m).length = m := by rw [List.length_take]; omega
   have hl2 : (xs.drop m).length = xs.length - m := List.length_drop
   rw [hl1] at HW1
   rw [hl2] at HW2
   have hcut1 := cut_to (P := Try.prog) 25 87 .i64 hut hi2 A xs.length c (m : Int) (by omega) (by omega) hc
   have hcut2 := cut_from (P := Try.prog) 25 87 .i64 hut hi2 2 hsz2 A xs.length c (m : Int) (by omega) (by omega)
   rw [Int.toNat_natCast] at hcut1 hcut2
   rw [if_neg (show ¬ c = m by omega)] at hcut2
   have HBIG := Aside0.mk hbig
   have HPM := Aside0.mk hm1
   clear hC hK hn hbig ih hl1 hl2 hn1 hn2 hm0
   have HHC := Aside0.mk hc
   have hb7 : IntKind.i64.wrap (m : Int) = (m : Int) := IntWalk.i64_in _ (by have := HBIG.out; omega)
   have hb5 : wrap64 (m : Int) = (m : Int) := wrap_id (by have := HBIG.out; omega) (by have := HBIG.out; omega)
   obtain ⟨L, hL⟩ : ∃ L, L = xs.length := ⟨_, rfl⟩
   have HL := Aside0.mk hL
   have HS0 := Aside0.mk (show ¬ L < 2 by omega)
   rw [← hL] at hcut1 hcut2 HW2 hlt hdiv ⊢
   obtain ⟨n2, hn2⟩ : ∃ n2, n2 = L - m := ⟨_, rfl⟩
   obtain ⟨A2, hA2⟩ : ∃ A2, A2 = A.map (·.add (m * 2)) := ⟨_, rfl⟩
   obtain ⟨c2, hc2⟩ : ∃ c2, c2 = c - m := ⟨_, rfl⟩
   rw [← hn2, ← hA2, ← hc2] at hcut2 HW2
   clear hn2 hA2 hc2 hL hm1 hc h2 hm
   go_enter Try.func63, Try.ntmps63
   go_wp2_with (first | (go_at_call 63; refine HW1.out.mono ?_; rintro e w1 ⟨A4, c4, ps, rfl, hs1⟩; have HS1 := Aside0.mk hs1; clear hs1 HW1) | (go_at_call 63; refine (HW2 _ HS1.out.2.2.2.2.2.1).mono ?_; rintro e w2 ⟨A5, c5, qs, rfl, hs2⟩; have HS2 := Aside0.mk hs2; clear hs2 HW2) | ((with_reducible refine gate_dst (N := 24) rfl ?_); refine Kd.R_lit (raw 2) _ 87 ?hg (N := 24) ?hd (xs := ([] : List (List Value))) (inner := []) (ok := fun _ => True) (okp := fun _ => True) ?hr ?hp (fun _ hk => hk) trivial (Below.refl _ _) (Nat.le_refl _) (by simp) ?_; (case hd => rfl); (case hg => rfl); (case hr => first | (go_simp; done) | (go_simp; rfl)); (case hp => exact (Reps.none _ _)); intro v6 w3 ho3 hb hg_ hnew_; clear hg_ hnew_; have HO := Aside0.mk ho3; have HB := Aside0.mk hb; clear ho3 hb))
   have HFA := Aside0.mk (HS1.out.2.2.2.1.later HS2.out.2.2.2.2.2.1)
   have HKA := Aside0.mk (HS1.out.2.2.2.2.1.later HS2.out.2.2.2.2.2.1)
   have HFB := Aside0.mk HS2.out.2.2.2.1
   have HKB := Aside0.mk HS2.out.2.2.2.2.1
   have hla : ps.length ≤ 1048576 := by rw [HS1.out.2.1.length_eq, List.length_take]; have := HBIG.out; omega
   have hlb : qs.length ≤ 1048576 := by rw [HS2.out.2.1.length_eq, List.length_drop]; have := HBIG.out; omega
   have HLL := Aside0.mk (show ps.length + qs.length ≤ 1048576 by rw [HS1.out.2.1.length_eq, List.length_take, HS2.out.2.1.length_eq, List.length_drop]; have := HBIG.out; omega)
   have hca := HS1.out.1
   have hcb := HS2.out.1
   generalize hLA : ps.length = la at *
   generalize hLB : qs.length = lb at *
   have HLA := Aside0.mk hLA
   have HLB := Aside0.mk hLB
   clear hLA hLB hcut1 hcut2 hdiv hlt
   obtain ⟨Ao, co, rfl⟩ := R_slice HO.out
   go_loopg [6, 7, 8] (la + lb) (fun gg y6 y7 y8 wr => ∃ (i k : Nat) (out : List α) (Ao : Option Addr) (co nO : Nat), i ≤ la ∧ k ≤ lb ∧ (la - i) + (lb - k) ≤ gg ∧ y6 = .slice Ao nO co ∧ y7 = .int .i64 (i : Int) ∧ y8 = .int .i64 (k : Int) ∧ Aside0 (nO = out.length) ∧ Aside0 (out.length = i + k) ∧ Aside0 (out ++ List.merge (ps.drop i) (qs.drop k) (leK key) = List.merge ps qs (leK key)) ∧ Aside0 (Kd.R (raw 2) 87 wr w2.heap.size (fun _ => True) (.slice Ao nO co) (out.map enc)) ∧ Aside0 (Below w2.heap.size w2 wr))
   case atStart => exact ⟨0, 0, [], Ao, co, 0, Nat.zero_le _, Nat.zero_le _, by omega, rfl, rfl, rfl, ⟨rfl⟩, ⟨rfl⟩, ⟨rfl⟩, HO, HB⟩
   case round =>
    clear HO HB
    obtain ⟨i, k, out, Ao, co, nO, hi, hk, hgg, rfl, rfl, rfl, HNO, HLO, HM, HO, HB⟩ := hrel
    by_cases hik : i < la
    ·
     have hilt : (i : Int) < (la : Int) := by omega
     have hposps : 0 < ps.length := by rw [HLA.out]; omega
     obtain ⟨b4, o4, rfl, hrowps⟩ := raw_rows HFA.out HKA.out hposps
     have HROWps := Aside0.mk hrowps
     clear hrowps hposps
     have hltps : i < ps.length := by rw [HLA.out]; omega
     have HLTps := Aside0.mk hltps
     by_cases hkk : k < lb
     ·
      have hklt : (k : Int) < (lb : Int) := by omega
      have hkne : ((k : Int) == (lb : Int)) = false := by simp; omega
      have hposqs : 0 < qs.length := by rw [HLB.out]; omega
      obtain ⟨b5, o5, rfl, hrowqs⟩ := raw_rows HFB.out HKB.out hposqs
      have HROWqs := Aside0.mk hrowqs
      clear hrowqs hposqs
      have hltqs : k < qs.length := by rw [HLB.out]; omega
      have HLTqs := Aside0.mk hltqs
      have HRL := fun q => rowLess_calls (key qs[k]) (key ps[i]) b5 (o5 + k * 2) b4 (o4 + i * 2) (wr.drewN q) (((HROWqs.out k HLTqs.out).1.below HB.out).drewN q) (((HROWps.out i HLTps.out).1.below HB.out).drewN q)
      have HLE := Aside0.mk (leK_iff key ps[i] qs[k])
      by_cases hless : cmpT (key qs[k]) (key ps[i]) < 0
      ·
       rw [decide_eq_true hless] at HRL
       have HMR := Aside0.mk (merge_right (le := leK key) (i := i) HLTqs.out (fun h_ => by rw [HLE.out]; exact fun h2_ => h2_ hless))
       clear hless HLE hltps hltqs
       obtain ⟨A8, c8, henc, h0, h1⟩ := (HROWqs.out k HLTqs.out).2
       have hx0 := pw_cell_below HB.out h0
       have hx1 := pw_cell_below HB.out h1
       have HENC := Aside0.mk henc
       have HNEXT := Aside0.mk (show (out ++ [qs[k]'HLTqs.out]).map enc = out.map enc ++ [[.int .i64 (key (qs[k]'HLTqs.out)).f0, .slice A8 (key (qs[k]'HLTqs.out)).f1.length c8]] by rw [List.map_append, List.map_cons, List.map_nil, henc])
       clear henc h0 h1
       generalize hf0 : (key (qs[k]'HLTqs.out)).f0 = f0 at hx0 HNEXT
       generalize hf1 : (key (qs[k]'HLTqs.out)).f1.length = l1 at hx1 HNEXT
       clear hf0 hf1 HENC
       go_wp2_with (fail)
       go_quiet (first | (go_at_call 138; exact Calls.quiet_of (HRL _)))
       go_wp2_with (first | (at_builtin; refine R_append (raw 2) (w0 := w2) (W := wr.drewN nq) w2.heap.size rfl (.tmp 64) (.tmp 69) 25 87 (.agg #[.int .i64 0, .slice none 0 0]) 32 rfl hut infoW rfl (by decide) (by decide) (.slice Ao nO co) (out.map enc) [.int .i64 f0, .slice A8 l1 c8] [.int .i64 f0, .slice A8 l1 c8] (fun _ => True) (fun _ => False) rfl rfl ⟨rfl, rfl, by simp [Value.oneCell']⟩ (fun _ hk => hk.elim) (fun _ _ => trivial) (R_drewN HO.out nq) (pw_below_drewN HB.out nq) (pw_below_drewN HB.out nq).size (by rw [List.length_map, HLO.out]; have h_ := HLL.out; have h2_ := HLA.out; have h3_ := HLB.out; omega) ?_; intro v9 w9 ho9 hb9 hg9 hat9; have HO9 := Aside0.mk ho9; have HB9 := Aside0.mk hb9; obtain ⟨A9, c9, rfl⟩ := R_slice ho9; clear ho9 hb9 hg9 hat9))
       go_roundg (la + lb - (i) - (k + 1))
       case measure => omega
       case rel => exact ⟨i, k + 1, out ++ [qs[k]'HLTqs.out], _, _, _, by omega, by omega, by omega, rfl, by go_num, by go_num, ⟨by simp⟩, ⟨by rw [List.length_append, HLO.out]; simp; omega⟩, ⟨by rw [← HM.out, HMR.out, List.append_assoc]; rfl⟩, ⟨by rw [HNEXT.out]; have h_ := HO9.out; rw [List.length_append, List.length_map] at h_; exact h_⟩, HB9⟩
      ·
       rw [decide_eq_false hless] at HRL
       have HML := Aside0.mk (merge_left (le := leK key) HLTps.out (Nat.le_of_lt HLTqs.out) (fun h_ => by rw [HLE.out]; exact hless))
       clear hless HLE hltps hltqs
       obtain ⟨A8, c8, henc, h0, h1⟩ := (HROWps.out i HLTps.out).2
       have hx0 := pw_cell_below HB.out h0
       have hx1 := pw_cell_below HB.out h1
       have HENC := Aside0.mk henc
       have HNEXT := Aside0.mk (show (out ++ [ps[i]'HLTps.out]).map enc = out.map enc ++ [[.int .i64 (key (ps[i]'HLTps.out)).f0, .slice A8 (key (ps[i]'HLTps.out)).f1.length c8]] by rw [List.map_append, List.map_cons, List.map_nil, henc])
       clear henc h0 h1
       generalize hf0 : (key (ps[i]'HLTps.out)).f0 = f0 at hx0 HNEXT
       generalize hf1 : (key (ps[i]'HLTps.out)).f1.length = l1 at hx1 HNEXT
       clear hf0 hf1 HENC
       go_wp2_with (fail)
       go_quiet (first | (go_at_call 138; exact Calls.quiet_of (HRL _)))
       go_wp2_with (first | (at_builtin; refine R_append (raw 2) (w0 := w2) (W := wr.drewN nq) w2.heap.size rfl (.tmp 55) (.tmp 60) 25 87 (.agg #[.int .i64 0, .slice none 0 0]) 32 rfl hut infoW rfl (by decide) (by decide) (.slice Ao nO co) (out.map enc) [.int .i64 f0, .slice A8 l1 c8] [.int .i64 f0, .slice A8 l1 c8] (fun _ => True) (fun _ => False) rfl rfl ⟨rfl, rfl, by simp [Value.oneCell']⟩ (fun _ hk => hk.elim) (fun _ _ => trivial) (R_drewN HO.out nq) (pw_below_drewN HB.out nq) (pw_below_drewN HB.out nq).size (by rw [List.length_map, HLO.out]; have h_ := HLL.out; have h2_ := HLA.out; have h3_ := HLB.out; omega) ?_; intro v9 w9 ho9 hb9 hg9 hat9; have HO9 := Aside0.mk ho9; have HB9 := Aside0.mk hb9; obtain ⟨A9, c9, rfl⟩ := R_slice ho9; clear ho9 hb9 hg9 hat9))
       go_roundg (la + lb - (i + 1) - (k))
       case measure => omega
       case rel => exact ⟨i + 1, k, out ++ [ps[i]'HLTps.out], _, _, _, by omega, by omega, by omega, rfl, by go_num, by go_num, ⟨by simp⟩, ⟨by rw [List.length_append, HLO.out]; simp; omega⟩, ⟨by rw [← HM.out, HML.out, List.append_assoc]; rfl⟩, ⟨by rw [HNEXT.out]; have h_ := HO9.out; rw [List.length_append, List.length_map] at h_; exact h_⟩, HB9⟩
     ·
      have hknlt : ¬ (k : Int) < (lb : Int) := by omega
      have hkeq : ((k : Int) == (lb : Int)) = true := by simp; omega
      have HML := Aside0.mk (merge_left (le := leK key) HLTps.out (show k ≤ qs.length by rw [HLB.out]; omega) (fun h_ => by rw [HLB.out] at h_; omega))
      clear hltps
      obtain ⟨A8, c8, henc, h0, h1⟩ := (HROWps.out i HLTps.out).2
      have hx0 := pw_cell_below HB.out h0
      have hx1 := pw_cell_below HB.out h1
      have HENC := Aside0.mk henc
      have HNEXT := Aside0.mk (show (out ++ [ps[i]'HLTps.out]).map enc = out.map enc ++ [[.int .i64 (key (ps[i]'HLTps.out)).f0, .slice A8 (key (ps[i]'HLTps.out)).f1.length c8]] by rw [List.map_append, List.map_cons, List.map_nil, henc])
      clear henc h0 h1
      generalize hf0 : (key (ps[i]'HLTps.out)).f0 = f0 at hx0 HNEXT
      generalize hf1 : (key (ps[i]'HLTps.out)).f1.length = l1 at hx1 HNEXT
      clear hf0 hf1 HENC
      go_wp2_with (fail)
      go_quiet (fail)
      go_wp2_with (first | (at_builtin; refine R_append (raw 2) (w0 := w2) (W := wr.drewN nq) w2.heap.size rfl (.tmp 55) (.tmp 60) 25 87 (.agg #[.int .i64 0, .slice none 0 0]) 32 rfl hut infoW rfl (by decide) (by decide) (.slice Ao nO co) (out.map enc) [.int .i64 f0, .slice A8 l1 c8] [.int .i64 f0, .slice A8 l1 c8] (fun _ => True) (fun _ => False) rfl rfl ⟨rfl, rfl, by simp [Value.oneCell']⟩ (fun _ hk => hk.elim) (fun _ _ => trivial) (R_drewN HO.out nq) (pw_below_drewN HB.out nq) (pw_below_drewN HB.out nq).size (by rw [List.length_map, HLO.out]; have h_ := HLL.out; have h2_ := HLA.out; have h3_ := HLB.out; omega) ?_; intro v9 w9 ho9 hb9 hg9 hat9; have HO9 := Aside0.mk ho9; have HB9 := Aside0.mk hb9; obtain ⟨A9, c9, rfl⟩ := R_slice ho9; clear ho9 hb9 hg9 hat9))
      go_roundg (la + lb - (i + 1) - (k))
      case measure => omega
      case rel => exact ⟨i + 1, k, out ++ [ps[i]'HLTps.out], _, _, _, by omega, by omega, by omega, rfl, by go_num, by go_num, ⟨by simp⟩, ⟨by rw [List.length_append, HLO.out]; simp; omega⟩, ⟨by rw [← HM.out, HML.out, List.append_assoc]; rfl⟩, ⟨by rw [HNEXT.out]; have h_ := HO9.out; rw [List.length_append, List.length_map] at h_; exact h_⟩, HB9⟩
    ·
     have hinlt : ¬ (i : Int) < (la : Int) := by omega
     by_cases hkk : k < lb
     ·
      have hklt : (k : Int) < (lb : Int) := by omega
      have hkne : ((k : Int) == (lb : Int)) = false := by simp; omega
      have hposqs : 0 < qs.length := by rw [HLB.out]; omega
      obtain ⟨b5, o5, rfl, hrowqs⟩ := raw_rows HFB.out HKB.out hposqs
      have HROWqs := Aside0.mk hrowqs
      clear hrowqs hposqs
      have hltqs : k < qs.length := by rw [HLB.out]; omega
      have HLTqs := Aside0.mk hltqs
      have HMR := Aside0.mk (merge_right (le := leK key) (i := i) HLTqs.out (fun h_ => by rw [HLA.out] at h_; omega))
      clear hltqs
      obtain ⟨A8, c8, henc, h0, h1⟩ := (HROWqs.out k HLTqs.out).2
      have hx0 := pw_cell_below HB.out h0
      have hx1 := pw_cell_below HB.out h1
      have HENC := Aside0.mk henc
      have HNEXT := Aside0.mk (show (out ++ [qs[k]'HLTqs.out]).map enc = out.map enc ++ [[.int .i64 (key (qs[k]'HLTqs.out)).f0, .slice A8 (key (qs[k]'HLTqs.out)).f1.length c8]] by rw [List.map_append, List.map_cons, List.map_nil, henc])
      clear henc h0 h1
      generalize hf0 : (key (qs[k]'HLTqs.out)).f0 = f0 at hx0 HNEXT
      generalize hf1 : (key (qs[k]'HLTqs.out)).f1.length = l1 at hx1 HNEXT
      clear hf0 hf1 HENC
      go_wp2_with (fail)
      go_quiet (fail)
      go_wp2_with (first | (at_builtin; refine R_append (raw 2) (w0 := w2) (W := wr.drewN nq) w2.heap.size rfl (.tmp 64) (.tmp 69) 25 87 (.agg #[.int .i64 0, .slice none 0 0]) 32 rfl hut infoW rfl (by decide) (by decide) (.slice Ao nO co) (out.map enc) [.int .i64 f0, .slice A8 l1 c8] [.int .i64 f0, .slice A8 l1 c8] (fun _ => True) (fun _ => False) rfl rfl ⟨rfl, rfl, by simp [Value.oneCell']⟩ (fun _ hk => hk.elim) (fun _ _ => trivial) (R_drewN HO.out nq) (pw_below_drewN HB.out nq) (pw_below_drewN HB.out nq).size (by rw [List.length_map, HLO.out]; have h_ := HLL.out; have h2_ := HLA.out; have h3_ := HLB.out; omega) ?_; intro v9 w9 ho9 hb9 hg9 hat9; have HO9 := Aside0.mk ho9; have HB9 := Aside0.mk hb9; obtain ⟨A9, c9, rfl⟩ := R_slice ho9; clear ho9 hb9 hg9 hat9))
      go_roundg (la + lb - (i) - (k + 1))
      case measure => omega
      case rel => exact ⟨i, k + 1, out ++ [qs[k]'HLTqs.out], _, _, _, by omega, by omega, by omega, rfl, by go_num, by go_num, ⟨by simp⟩, ⟨by rw [List.length_append, HLO.out]; simp; omega⟩, ⟨by rw [← HM.out, HMR.out, List.append_assoc]; rfl⟩, ⟨by rw [HNEXT.out]; have h_ := HO9.out; rw [List.length_append, List.length_map] at h_; exact h_⟩, HB9⟩
     ·
      have hknlt : ¬ (k : Int) < (lb : Int) := by omega
      have HEND := Aside0.mk (show out = List.merge ps qs (leK key) by rw [← HM.out, List.drop_eq_nil_of_le (show ps.length ≤ i by rw [HLA.out]; omega), List.drop_eq_nil_of_le (show qs.length ≤ k by rw [HLB.out]; omega)]; simp)
      go_wp2_with (fail)
      go_ret
      have hend := HEND.out
      have hno := HNO.out
      subst hno
      have hB1 := HS1.out.2.2.2.2.2.1
      have hB2 := below_then hB1 hB1.size HS2.out.2.2.2.2.2.1
      have hB3 := below_then hB2 hB2.size HB.out
      have hr := HO.out
      obtain ⟨hr1, hr2, hr3⟩ := R_reads' hr
      have hl : (out.map enc).length = out.length := List.length_map _
      have hmem : ∀ p ∈ out, p ∈ ps ∨ p ∈ qs := fun p hp => by
       rw [hend] at hp
       exact List.mem_merge.1 hp
      refine ⟨Ao, co, out, rfl, hr2, ?_, ?_, ?_, fun p hp => ?_, hB3, fun h_ => absurd h_ (by have := HS0.out; rw [HL.out] at this; exact this), fun _ => R_lower hr hB2.size⟩
      ·
       rw [hend]
       refine (List.merge_perm_append _).trans ((HS1.out.2.1.append HS2.out.2.1).trans ?_)
       rw [List.take_append_drop]
      ·
       rw [hend]
       exact List.pairwise_merge (le := leK key) (fun a b c h1 h2 => leT_trans (key a) (key b) (key c) h1 h2) (fun a b => leT_total (key a) (key b)) ps qs HS1.out.2.2.1 HS2.out.2.2.1
      ·
       rw [hl] at hr3
       exact hr3
      ·
       rcases hmem p hp with h | h
       ·
        exact (HKA.out p h).later HB.out
       ·
        exact (HKB.out p h).later HB.out
end

end Go.Proofs.Ytdahdeohmbadhaa.TMerge

namespace Go.Proofs.Ytdahdeohmbadhaa.TMerge
open Go.RowKit Go.Lib Go.Proofs Go.Proofs.YtdahdeohmbadhaaW.PrintWords Go.Proofs.YtdahdeohmbadhaaW.PrintWords.Kd Go.Proofs.YtdahdeohmbadhaaW.PrintLast Go.Proofs.YtdahdeohmbadhaaW.PrintMore Go.Proofs.Ytdahdeohmbadhaa.G Go.Proofs.Ytdahdeohmbadhaa.Fam Go.Proofs.Ytdahdeohmbadhaa.Loops Go.Proofs.Ytdahdeohmbadhaa.MarkT Go.Proofs.Ytdahdeohmbadhaa.TSort Go.Proofs.Ytdahdeohmbadhaa.TCmp Go.Proofs.Ytdahdeohmbadhaa.TLess Go.Proofs.Ytdahdeohmbadhaa.TShape Go.Proofs.Ytdahdeohmbadhaa.TOk Go.Proofs.Ytdahdeohmbadhaa.Sorting
set_option linter.unusedVariables false
set_option linter.unusedSimpArgs false

theorem lsort_rows (base : Nat) (ok : Nat → Prop) (v : Value) (rs : List Row) (w : World) (h : Kd.S dW 87 w base ok v rs) (hlen : rs.length ≤ 1048576) :
  Calls Try.prog 63 #[v] w fun e w' => ∃ v', e = .returned v' ∧ Kd.S dW 87 w' base (fun k => ok k ∨ w.heap.size ≤ k) v' (rs.mergeSort leT) ∧ Below w.heap.size w w' := by
 have hS := h
 obtain ⟨A, c, rfl⟩ := S_slice h
 obtain ⟨f, hok, inner, ho, hr⟩ := h
 rw [List.length_zipIdx] at ho
 have hil : inner.length = rs.length * 2 := ho.1
 let n := rs.length
 let key : Fin n → Row := fun i => rs[i]
 let enc : Fin n → List Value := fun i => (inner.drop (i.val * 2)).take 2
 let l0 : List (Fin n) := List.finRange n
 have hl0 : l0.length = rs.length := by simp [l0, n]
 have hmul : ∀ i : Fin n, i.val * 2 + 2 ≤ inner.length := fun i => by
  have := i.isLt
  have e : n = rs.length := rfl
  omega
 have hek : ∀ i, (enc i).length = 2 := fun i => by
  have := hmul i
  simp only [enc, List.length_take, List.length_drop]
  omega
 have hel : ∀ i : Fin n, dW.M w base (fun q => ((ok q ∧ some q ≠ (Value.slice A rs.length c).ownBlock) ∧ f q = i.val)) rs[i] (enc i) := fun i => by
  have hz : rs.zipIdx[i.val]? = some (rs[i], i.val) := zip_at (List.getElem?_eq_getElem i.isLt)
  exact hr.2 i.val _ hz
 have hone : ∀ i, ∀ u ∈ enc i, u.oneCell' = true := fun i u hu => dW.K_one (dW.K_of_M (hel i)) u hu
 have hRaw : Kd.R (raw 2) 87 w base (fun _ => True) (.slice A rs.length c) (l0.map enc) := by
  refine ⟨fun _ _ => trivial, inner, by rw [List.length_map, hl0]; exact ho, by rw [List.length_map, hl0]; exact hil, fun j p hj => ?_⟩
  rw [List.getElem?_map] at hj
  obtain ⟨i, hi, rfl⟩ := Option.map_eq_some_iff.1 hj
  have hij : i.val = j := by
   obtain ⟨hj2, e⟩ := List.getElem?_eq_some_iff.1 hi
   rw [← e]
   simp [l0]
  subst hij
  exact ⟨rfl, hek i, hone i⟩
 obtain ⟨_, hcc, hRC⟩ := R_reads' hRaw
 rw [List.length_map, hl0] at hRC
 have hRC' : RawC enc w A l0 := by unfold RawC; rw [hl0]; exact hRC
 have hK : Keyed key enc w l0 := fun i _ => by
  obtain ⟨v1, e1, r1⟩ := k87_openM (hel i)
  obtain ⟨A1, c1, rfl, hl1, hc1⟩ := R_reads r1
  exact ⟨A1, c1, e1, hl1, hc1⟩
 have hcall := lsort_calls (key := key) (enc := enc) rs.length l0 A c w (by rw [hl0]; exact Nat.le_refl _) (by rw [hl0]; exact hlen) (by rw [hl0]; exact hcc) hRC' hK
 rw [hl0] at hcall
 refine hcall.mono ?_
 rintro e w' ⟨A', c', ys, rfl, _, hperm, hpw, _, _, hbel, hsmall, hbig⟩
 rw [hl0] at hsmall hbig
 have hyl : ys.length = rs.length := by rw [hperm.length_eq, hl0]
 have hyn : ys.Nodup := hperm.nodup_iff.2 (List.nodup_finRange _)
 have hl0map : l0.map key = rs := by
  apply List.ext_getElem
  ·
   simp [l0, n]
  ·
   intro i h1 h2; simp [l0, key]
 have hmap : ys.map key = rs.mergeSort leT := by
  refine List.Perm.eq_of_pairwise (fun a b _ _ h1 h2 => leT_anti a b h1 h2) ?_ (List.pairwise_mergeSort leT_trans leT_total rs) ?_
  ·
   rw [List.pairwise_map]
   exact hpw
  ·
   refine (hperm.map _).trans ?_
   rw [hl0map]
   exact (List.mergeSort_perm rs _).symm
 refine ⟨_, rfl, ?_, hbel⟩
 rw [← hmap]
 by_cases h2 : rs.length < 2
 ·
  obtain ⟨rfl, rfl, rfl⟩ := hsmall h2
  rw [hl0map, hl0]
  exact S_mono (S_below hS hbel) (fun _ hk => .inl hk)
 ·
  obtain ⟨_, inner', ho', hr'⟩ := hbig (by omega)
  rw [List.length_map] at ho'
  have hbase : base ≤ w.heap.size := by
   rcases ho.2 with ⟨e1, e2⟩ | ⟨g, cap, cur, e1, hg, hh, _⟩
   ·
    have : rs.length = 0 := by injection e1
    omega
   ·
    have := blk_lt hh
    omega
  have hnew : ∀ q, (Value.slice A' ys.length c').ownBlock = some q → w.heap.size ≤ q := fun q hq => own_base ho' q hq
  obtain ⟨f', hrep⟩ := reps_tag (d := dW) (w := w') (base := base) (ok := fun q => ok q ∧ q < w.heap.size) (xs := ys.map key) (inner := inner')
   (fun j q => (ok q ∧ q < w.heap.size) ∧ ∃ h : j < ys.length, f q = (ys[j]).val)
   (fun i j q h1 h2 => by
    obtain ⟨_, hi, e1⟩ := h1
    obtain ⟨_, hj, e2⟩ := h2
    exact nodup_inj hyn hi hj (Fin.ext (e1.symm.trans e2)))
   (fun j q h => h.1) (by rw [List.length_map]; exact ho'.1)
   (fun j x hx => by
    rw [List.getElem?_map] at hx
    obtain ⟨i, hi, rfl⟩ := Option.map_eq_some_iff.1 hx
    obtain ⟨hj, rfl⟩ := List.getElem?_eq_some_iff.1 hi
    have hd := (hr'.2 j (enc ys[j]) (by rw [List.getElem?_map, hi]; rfl)).1
    have hm := dW.M_bound (hel ys[j])
    have hm2 := dW.M_move (w1 := w') (fun k hk => hbel.block k hk.2.2.1) hm
    have hd2 : (inner'.drop (j * dW.sz)).take dW.sz = enc ys[j] := hd
    rw [hd2]
    exact dW.M_mono (fun q hq => ⟨⟨hq.1.1.1, hq.2.2.1⟩, hj, hq.1.2⟩) hm2)
  refine ⟨f', fun q hq => .inr (hnew q hq), inner', ?_, ?_⟩
  ·
   rw [List.length_zipIdx, List.length_map]
   exact own_weaken ho' hbase
  ·
   refine Reps.imp_ hrep (fun p cs hp => (tag f' dW).M_mono (fun q hq => ⟨.inl hq.1, fun e => ?_⟩) hp)
   have := hnew q e.symm
   have := hq.2
   omega

end Go.Proofs.Ytdahdeohmbadhaa.TMerge
