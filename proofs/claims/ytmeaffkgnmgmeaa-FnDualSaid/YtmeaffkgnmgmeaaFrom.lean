/- Contract of the reference's l01From: the family of a table in which more holders never open less. -/
import Derived.Test.YtmeaffkgnmgmeaaSorted
import Derived.Test.YtmeaffkgnmgmeaaCrowds
import Derived.Test.YtmeaffkgnmgmeaaIdx
import Derived.Test.YtmeaffkgnmgmeaaFamLaw
import Derived.Test.YtmeaffkgnmgmeaaOps1
import Derived.Outline
namespace Go.Proofs.Ytmeaffkgnmgmeaa.From
open Go.RowKit Go.Lib Go.Proofs Go.Proofs.YtmeaffkgnmgmeaaW.PrintWords Go.Proofs.YtmeaffkgnmgmeaaW.PrintWords.Kd Go.Proofs.YtmeaffkgnmgmeaaW.PrintLast Go.Proofs.YtmeaffkgnmgmeaaW.PrintMore Go.Proofs.Ytmeaffkgnmgmeaa.G Go.Proofs.Ytmeaffkgnmgmeaa.Fam Go.Proofs.Ytmeaffkgnmgmeaa.Loops Go.Proofs.Ytmeaffkgnmgmeaa.Bits Go.Proofs.Ytmeaffkgnmgmeaa.Sorting Go.Proofs.Ytmeaffkgnmgmeaa.Crowds Go.Proofs.Ytmeaffkgnmgmeaa.Sorted Go.Proofs.Ytmeaffkgnmgmeaa.Idx Go.Proofs.Ytmeaffkgnmgmeaa.FamLaw Go.Proofs.Ytmeaffkgnmgmeaa.Ops
set_option linter.unusedVariables false
set_option linter.unusedSimpArgs false

theorem of_all : ∀ c : Fin 128, spec_l01Of.f 9 ((c.val : Nat) : Int) = some (groupN c.val) := by decide +kernel
theorem of_calls (c : Nat) (hc : c < 128) (W : World) : Calls Try.prog 94 #[.int .i64 (c : Int)] W fun e w' => ∃ v, e = .returned v ∧ Kd.R (Kd.int .i64) 2 w' W.heap.size (fun _ => True) v (groupN c) ∧ Below W.heap.size W w' :=
  spec_l01Of.calls 9 (c : Int) _ W (of_all ⟨c, hc⟩)

/-- The table tells of c. -/
def tb (l : List Bool) (c : Nat) : Bool := l.getD c false

/-- A cell of the table. -/
theorem table_at {w : World} {A : Option Addr} {l : List Bool} (h : Kd.C Kd.bool w A l.length l) {i : Nat} (hi : i < l.length) : ∃ ad, A = some ad ∧ w.cell? (ad.add i) = some (.bool (tb l i)) := by
  obtain ⟨ad, v, e, hc, hK⟩ := elem_at (d := Kd.bool) rfl h i hi
  refine ⟨ad, e, ?_⟩
  have : v = .bool l[i] := by simpa [Kd.bool, Kd.scalar] using hK
  rw [hc, this]
  simp [tb, List.getD, hi]

/-- So far no holder below h that is in c can be left out. -/
def soFar (p : Nat → Bool) (c h : Nat) : Bool := p c && (List.range h).all fun i => !(c.testBit i && p (c ^^^ 1 <<< i))
theorem soFar_step (p : Nat → Bool) (c h : Nat) : soFar p c (h + 1) = (soFar p c h && !(c.testBit h && p (c ^^^ 1 <<< h))) := by
  unfold soFar
  rw [List.range_succ, List.all_append, ← Bool.and_assoc]
  simp
theorem soFar_zero (p : Nat → Bool) (c : Nat) : soFar p c 0 = p c := by simp [soFar]
theorem soFar_least (p : Nat → Bool) (c n : Nat) : soFar p c n = leastN n p c := rfl
theorem soFar_false (p : Nat → Bool) (c h n : Nat) (hn : h ≤ n) (h0 : soFar p c h = false) : leastN n p c = false := by
  induction n with
  | zero => rw [show h = 0 by omega] at h0; exact h0
  | succ m ih =>
    by_cases e : h = m + 1
    · rw [← e]; exact h0
    · rw [← soFar_least, soFar_step, soFar_least, ih (by omega)]; rfl

theorem bit_all : ∀ c : Fin 128, ∀ h : Fin 7, (Go.bits .and .i64 (((c.val : Nat) : Int) / 2 ^ h.val) 1) = if c.val.testBit h.val then 1 else 0 := by decide +kernel
theorem bit_is {c h : Nat} (hc : c < 128) (hh : h < 7) : Go.bits .and .i64 ((c : Int) / 2 ^ h) 1 = if c.testBit h then 1 else 0 := bit_all ⟨c, hc⟩ ⟨h, hh⟩
theorem drop_all : ∀ c : Fin 128, ∀ h : Fin 7, c.val.testBit h.val = true → Go.bits .andNot .i64 ((c.val : Nat) : Int) (wrap64 (2 ^ h.val)) = ((c.val ^^^ 1 <<< h.val : Nat) : Int) := by decide +kernel
theorem drop_is {c h : Nat} (hc : c < 128) (hh : h < 7) (ht : c.testBit h = true) : Go.bits .andNot .i64 (c : Int) (wrap64 (2 ^ h)) = ((c ^^^ 1 <<< h : Nat) : Int) := drop_all ⟨c, hc⟩ ⟨h, hh⟩ ht
theorem drop_below {n c h : Nat} (hn : n ≤ 7) (hc : c < 2 ^ n) (ht : c.testBit h = true) : c ^^^ 1 <<< h < 2 ^ n := drop_lt hc ht

set_option maxHeartbeats 2000000 in
theorem from_calls (n : Nat) (hn : n ≤ 7) (A : Option Addr) (cc : Nat) (l : List Bool) (w : World) (hl : l.length = 2 ^ n) (hb : Kd.C Kd.bool w A l.length l) (hcc : l.length ≤ cc) :
    Calls Try.prog 80 #[.int .i64 (n : Int), .slice A l.length cc] w fun e w' => ∃ v, e = .returned (.agg #[.int .i64 (n : Int), v]) ∧ Kd.S dR 30 w' w.heap.size (fun _ => True) v (famN n (tb l)) ∧ Below w.heap.size w w' := by
  have h7 : 2 ^ n ≤ 128 := by have := Nat.pow_le_pow_right (n := 2) (by omega) hn; simpa using this
  have HC := Aside0.mk hb
  clear hb
  have HLN := Aside0.mk (crowds_list n (leastN n (tb l)) hn)
  have HLL := Aside0.mk (crowds_len n (leastN n (tb l)) hn)
  unfold famN crowdsN
  generalize hM : 2 ^ n = M at *
  have HM := Aside0.mk hM
  clear hM
  generalize hL : l.length = L at *
  have HL := Aside0.mk hL
  clear hL
  subst hl
  go_enter Try.func80, Try.ntmps80
  go_wp2_with (fail)
  go_loopg [5, 6] L (fun gg v5 v6 wr => ∃ (c : Nat) (u : Value), c ≤ L ∧ L - c ≤ gg ∧ v6 = .int .i64 (c : Int) ∧ u = v5 ∧ Aside0 (Kd.S dR 30 wr (w.heap.size + 1) (fun _ => True) u (((List.range c).filter (leastN n (tb l))).map groupN)) ∧ Aside0 (Below (w.heap.size + 1) (w.alloc (.cells #[.int .i64 0, .slice none 0 0] 27)) wr))
  case atStart => exact ⟨0, _, Nat.zero_le _, by omega, rfl, rfl, ⟨by have := S_empty dR 30 (w.alloc (.cells #[.int .i64 0, .slice none 0 0] 27)) (w.heap.size + 1) (by simp); simpa using this⟩, ⟨(below_alloc (Below.refl _ _) _).mono (by simp)⟩⟩
  case round =>
    obtain ⟨c, u, hcL, hgg, rfl, rfl, HS, HB⟩ := hrel
    by_cases hlt : c < L
    · have hltz : (c : Int) < (L : Int) := by omega
      have hc128 : c < 128 := by omega
      have hwB : Below w.heap.size w wr := below_then (below_alloc (Below.refl _ _) _) (by simp) (HB.out.mono (by simp))
      have hCr : Kd.C Kd.bool wr A l.length l := by rw [HL.out]; exact Kd.C_below HC.out hwB
      obtain ⟨ad, rfl, hc0⟩ := table_at hCr (by rw [HL.out]; exact hlt)
      have hsz : c < cc := by omega
      obtain ⟨W3, hW3⟩ : ∃ W3, W3 = wr := ⟨_, rfl⟩
      go_wp2_with (fail)
      go_loopg [7, 8] n (fun g2 v7 v8 w2 => ∃ (h : Nat) (b : Bool), h ≤ n ∧ n - h ≤ g2 ∧ v7 = .bool b ∧ v8 = .int .i64 (h : Int) ∧ Aside0 (b = soFar (tb l) c h) ∧ w2 = W3)
      case atStart => exact ⟨0, _, Nat.zero_le _, by omega, rfl, rfl, ⟨(soFar_zero _ _).symm⟩, hW3.symm⟩
      case round =>
        subst hW3
        obtain ⟨h, b, hhn, hg2, rfl, rfl, HBb, rfl⟩ := hrel
        by_cases hlt2 : h < n
        · have hlt2z : (h : Int) < (n : Int) := by omega
          cases b with
          | false =>
            have HF := Aside0.mk (soFar_false (tb l) c h n hhn HBb.out.symm)
            go_wp2_with (fail)
            go_roundg (L - (c + 1))
            case measure => omega
            case rel =>
              refine ⟨c + 1, _, by omega, by omega, by go_num, rfl, ⟨?_⟩, HB⟩
              rw [filter_step, HF.out, if_neg (by simp), List.append_nil]
              exact HS.out
          | true =>
            have hbit := bit_is hc128 (show h < 7 by omega)
            cases ht : c.testBit h with
            | false =>
              rw [ht, if_neg (by simp)] at hbit
              have HT := Aside0.mk ht
              clear ht
              go_wp2_with (fail)
              go_roundg (n - (h + 1))
              case measure => omega
              case rel => exact ⟨h + 1, true, by omega, by omega, rfl, by go_num, ⟨by rw [soFar_step, ← HBb.out, HT.out]; rfl⟩, rfl⟩
            | true =>
              rw [ht, if_pos rfl] at hbit
              have hd := drop_is hc128 (show h < 7 by omega) ht
              have hdl := drop_below hn (show c < 2 ^ n by rw [HM.out]; exact hlt) ht
              rw [HM.out] at hdl
              have HT := Aside0.mk ht
              clear ht
              obtain ⟨ad', e', hc1⟩ := table_at hCr (show c ^^^ 1 <<< h < l.length by rw [HL.out]; exact hdl)
              obtain rfl : ad = ad' := by injection e'
              clear e'
              generalize hD : c ^^^ 1 <<< h = d at *
              have HD := Aside0.mk hD
              clear hD
              have hdz : (d : Int) < (L : Int) := by omega
              cases hq : tb l d with
              | false =>
                rw [hq] at hc1
                have HQ := Aside0.mk hq
                clear hq
                go_wp2_with (fail)
                go_roundg (n - (h + 1))
                case measure => omega
                case rel => exact ⟨h + 1, true, by omega, by omega, rfl, by go_num, ⟨by rw [soFar_step, ← HBb.out, HT.out, HD.out, HQ.out]; rfl⟩, rfl⟩
              | true =>
                rw [hq] at hc1
                have HQ := Aside0.mk hq
                clear hq
                go_wp2_with (fail)
                go_roundg (n - (h + 1))
                case measure => omega
                case rel => exact ⟨h + 1, false, by omega, by omega, rfl, by go_num, ⟨by rw [soFar_step, ← HBb.out, HT.out, HD.out, HQ.out]; rfl⟩, rfl⟩
        · have hlt2z : ¬ (h : Int) < (n : Int) := by omega
          obtain rfl : h = n := by omega
          cases b with
          | false =>
            have HF := Aside0.mk (soFar_false (tb l) c h h hhn HBb.out.symm)
            go_wp2_with (fail)
            go_roundg (L - (c + 1))
            case measure => omega
            case rel =>
              refine ⟨c + 1, _, by omega, by omega, by go_num, rfl, ⟨?_⟩, HB⟩
              rw [filter_step, HF.out, if_neg (by simp), List.append_nil]
              exact HS.out
          | true =>
            have HF := Aside0.mk (HBb.out.trans (soFar_least (tb l) c h)).symm
            have hut := Try.underlying25
            have hlen := filter_len (leastN h (tb l)) c
            generalize hLs : ((List.range c).filter (leastN h (tb l))).map groupN = Ls at *
            have HLs := Aside0.mk hLs
            clear hLs
            have Hlen := Aside0.mk hlen
            clear hlen
            go_wp2_with (first | (go_at_call 94; refine (of_calls c hc128 _).mono ?_; rintro e w2 ⟨v2, rfl, hr2, hb2⟩; obtain ⟨A2, c2, rfl⟩ := R_slice hr2; have HR2 := Aside0.mk hr2; have HB2 := Aside0.mk hb2; clear hr2 hb2) | (at_builtin; refine S_append dR (w0 := w.alloc (.cells #[.int .i64 0, .slice none 0 0] 27)) (W := w2) (w.heap.size + 1) (by simp) (.tmp 45) (.tmp 48) 25 30 (.slice none 0 0) 24 rfl hut infoR rfl (by decide) (by decide) u Ls (groupN c) [.slice A2 (groupN c).length c2] (fun _ => True) (fun k => wr.heap.size ≤ k) rfl rfl ?h1 ?h2 ?h3 ?h4 ?h5 ?h6 ?h7 ?_; (case h1 => exact ⟨_, rfl, R_mono (R_lower (R_bound HR2.out) (by have := HB.out.size; simpa using this)) (fun k hk => hk.2.1)⟩); (case h2 => exact fun k hk => ⟨trivial, fun e => by have := S_lt HS.out k e.symm; omega⟩); (case h3 => exact fun _ _ => trivial); (case h4 => exact S_mono (S_old HS.out HB2.out) (fun k hk => ⟨trivial, by have := hk.2; omega⟩)); (case h5 => exact below_then HB.out (by have := HB.out.size; simpa using this) HB2.out); (case h6 => have := HB.out.size; have h2 := HB2.out.size; simp at this; omega); (case h7 => have := Hlen.out; omega); intro v3 w3 hS3 hB3 hg3 hat3; have HS3 := Aside0.mk hS3; have HB3 := Aside0.mk hB3; clear hS3 hB3 hg3 hat3))
            go_roundg (L - (c + 1))
            case measure => omega
            case rel =>
              refine ⟨c + 1, _, by omega, by omega, by go_num, rfl, ⟨?_⟩, HB3⟩
              rw [filter_step, HF.out, if_pos rfl, HLs.out]
              exact HS3.out
    · have hltz : ¬ (c : Int) < (L : Int) := by omega
      obtain rfl : c = L := by omega
      obtain ⟨A1, c1, rfl⟩ := S_slice HS.out
      have hu := Try.underlying27
      have hlen62 : (((List.range c).filter (leastN n (tb l))).map groupN).length < 4611686018427387904 := by have := HLL.out; omega
      have hS := sorted_calls (w.heap.size + 1) (fun _ => True) _ _ wr HS.out hlen62
      have HL2 : (((List.range c).filter (leastN n (tb l))).map groupN).length = ((((List.range c).filter (leastN n (tb l))).map groupN).mergeSort leL).length := by rw [List.length_mergeSort]
      have hbk : ∀ k, some k = (Value.slice A1 (((List.range c).filter (leastN n (tb l))).map groupN).length c1).ownBlock → w.heap.size + 1 ≤ k := fun k hk => S_base HS.out k hk.symm
      rw [HL2] at hS hbk ⊢
      clear HL2
      generalize hR : (((List.range c).filter (leastN n (tb l))).map groupN).mergeSort leL = R at *
      have HR := Aside0.mk hR
      clear hR
      have hsz' : w.heap.size + 1 ≤ wr.heap.size := by have := HB.out.size; simpa using this
      go_wp2_with (go_at_call 95; (refine hS.mono ?_; rintro e w1 ⟨rfl, hS', hg'⟩; have HB1 := Aside0.mk (pw_below_grown HB.out _ hsz' hg' (fun k hk => hbk k hk.symm)); have HZ := Aside0.mk (blk_below (blk_at (k := w.heap.size) (W := w) rfl) (HB1.out.mono (B' := (w.alloc (.cells #[.int .i64 0, .slice none 0 0] 27)).heap.size) (by simp))); have z0 : w1.cell? ⟨w.heap.size, 0, none⟩ = some (.int .i64 0) := (blk_cell HZ.out 0).trans rfl; have z1 : w1.cell? ⟨w.heap.size, 1, none⟩ = some (.slice none 0 0) := (blk_cell HZ.out 1).trans rfl; have f0 := blk_frozen HZ.out 0; have f1 := blk_frozen HZ.out 1; have HS' := Aside0.mk hS'; clear hS' hg'))
      have p0 := fun a b => put0 (a := a) (b := b) HZ.out
      have p1 := fun a b => put1 (a := a) (b := b) HZ.out
      refine bodyPost_ret (v := .agg #[.int .i64 (n : Int), .slice A1 R.length c1]) (by simp [results, Try.results80, go_sem, p0, p1]) rfl ⟨_, rfl, (by rw [HR.out]; exact S_put HZ.out (S_lower HS'.out (Nat.le_succ _))), ?_⟩
      have h1 : Below w.heap.size w w1 := below_then (B := w.heap.size) (below_alloc (Below.refl _ _) _) (by simp) (HB1.out.mono (by simp))
      exact below_set (below_set h1 (Nat.le_refl _)) (Nat.le_refl _)

def FromF (n : Int) (l : List Bool) : Option (Int × List (List Int)) := if (0 ≤ n ∧ n ≤ 7) ∧ l.length = 2 ^ n.toNat then some (n, famN n.toNat (tb l)) else none
theorem FromF_calls (n : Int) (A : Option Addr) (cc : Nat) (l : List Bool) (r1 : Int) (r2 : List (List Int)) (w : World) (hb : Kd.C Kd.bool w A l.length l) (hcc : l.length ≤ cc) (h : FromF n l = some (r1, r2)) :
    Calls Try.prog 80 #[.int .i64 n, .slice A l.length cc] w fun e w' => ∃ v, e = .returned (.agg #[.int .i64 r1, v]) ∧ Kd.S dR 30 w' w.heap.size (fun _ => True) v r2 ∧ Below w.heap.size w w' := by
  unfold FromF at h
  split at h
  · rename_i hh
    obtain ⟨rfl, rfl⟩ : n = r1 ∧ famN n.toNat (tb l) = r2 := by simpa using h
    have := from_calls n.toNat (by omega) A cc l w hh.2 hb hcc
    rwa [show ((n.toNat : Nat) : Int) = n by omega] at this
  · cases h

end Go.Proofs.Ytmeaffkgnmgmeaa.From
