/- The plain law of FnWeights: what the printed functions compute answers true. No program in sight. -/
import Derived.Test.YtgemfighmnnmeaaGx8
import Derived.Test.YtgemfighmnnmeaaGx6
import Derived.Test.YtgemfighmnnmeaaWLaw
import Derived.Test.YtgemfighmnnmeaaTMay
import Derived.Test.YtgemfighmnnmeaaTAt
import Derived.Test.YtgemfighmnnmeaaTOpens
import Derived.Test.YtgemfighmnnmeaaSomeOf
namespace Go.Proofs.Ytgemfighmnnmeaa.Pure
open Go.RowKit Go.Proofs.YtgemfighmnnmeaaW.PrintWords Go.Proofs.YtgemfighmnnmeaaW.PrintMore Go.Proofs.Ytgemfighmnnmeaa.G Go.Proofs.Ytgemfighmnnmeaa.Fam Go.Proofs.Ytgemfighmnnmeaa.Loops Go.Proofs.Ytgemfighmnnmeaa.Bits Go.Proofs.Ytgemfighmnnmeaa.Valid Go.Proofs.Ytgemfighmnnmeaa.FamLaw Go.Proofs.Ytgemfighmnnmeaa.Ops Go.Proofs.Ytgemfighmnnmeaa.Opens Go.Proofs.Ytgemfighmnnmeaa.Ops2 Go.Proofs.Ytgemfighmnnmeaa.TArg Go.Proofs.Ytgemfighmnnmeaa.TSame Go.Proofs.Ytgemfighmnnmeaa.Ref Go.Proofs.Ytgemfighmnnmeaa.Some Go.Proofs.Ytgemfighmnnmeaa.TMay Go.Proofs.Ytgemfighmnnmeaa.WLaw
set_option linter.unusedVariables false
set_option maxRecDepth 100000

/-! ### the table of a family, and the least quota -/
def opL (op : Nat → Bool) (c : Nat) : List Bool := (List.range c).map op
theorem opL_len (op : Nat → Bool) (c : Nat) : (opL op c).length = c := by unfold opL; simp
theorem opL_succ (op : Nat → Bool) (c : Nat) : opL op (c + 1) = opL op c ++ [op c] := by unfold opL; rw [List.range_succ, List.map_append]; rfl
theorem opL_at (op : Nat → Bool) {c C : Nat} (h : c < C) : rdOf false (opL op C) (c : Int) = op c := by
  unfold opL rdOf
  simp [List.getD, h]
theorem u64_of {c : Nat} (h : c < 128) : IntKind.u64.wrap (c : Int) = (c : Int) := by rw [IntKind.wrap_u64]; omega
theorem quota_in (ws : List Int) (hw : Digs ws) (hl : ws.length ≤ 7) (op : Nat → Bool) (C : Nat) (hC : C ≤ 128) (c : Nat) (hc : c < C) (lo hi : Int) (r : Int × Bool)
    (hn : Ev (fun k => impl_quotaOf.l0 k ws (if op c = true then lo else max lo (wbits ws c ws.length + 1)) (if op c = true then min hi (wbits ws c ws.length) else hi) (opL op C) (C : Int) ((c + 1 : Nat) : Int)) r) :
    ∀ (d h : Nat), h ≤ ws.length → ws.length - h = d → Ev (fun k => impl_quotaOf.l1 k ws lo hi (c : Int) (op c) (wbits ws c h) (opL op C) (C : Int) (c : Int) ws (ws.length : Int) (h : Int)) r := by
  have hwb := wbits_bound ws (fun x hx => by have := hw x hx; omega) c
  have hwc : wrap64 ((c : Int) + 1) = ((c + 1 : Nat) : Int) := by rw [wrap_id (by omega) (by omega)]; omega
  intro d
  induction d with
  | zero =>
    intro h hh hd
    obtain rfl : h = ws.length := by omega
    have hb := hwb ws.length
    have hws : wrap64 (wbits ws c ws.length + 1) = wbits ws c ws.length + 1 := wrap_id (by omega) (by omega)
    refine Ev.step (fun k => ?_) hn
    simp only [impl_quotaOf.l1]
    rw [if_neg (by omega), hwc, hws]
    cases op c with
    | true =>
      simp only [if_true]
      rw [show mn hi (wbits ws c ws.length) = min hi (wbits ws c ws.length) by unfold mn; split <;> omega]
    | false =>
      simp only [Bool.false_eq_true, if_false]
      rw [show mx lo (wbits ws c ws.length + 1) = max lo (wbits ws c ws.length + 1) by unfold mx; split <;> omega]
  | succ d ih =>
    intro h hh hd
    have hb := hwb h
    have hb1 := hwb (h + 1)
    have h1 := ih (h + 1) (by omega) (by omega)
    have hwh : wrap64 ((h : Int) + 1) = ((h + 1 : Nat) : Int) := by rw [wrap_id (by omega) (by omega)]; omega
    have hhas := has_is (c := c) (h := h) (by omega) (by omega)
    rw [wbits_succ] at h1 hb1
    refine Ev.step (fun k => ?_) h1
    simp only [impl_quotaOf.l1]
    rw [if_pos (by omega), if_pos (by omega), if_pos (by omega), u64_of (by omega), hhas]
    simp only [Option.bind_some]
    rw [hwh, rd_nat]
    cases hq : c.testBit h with
    | true =>
      rw [hq, if_pos rfl] at hb1
      simp only [if_true]
      rw [wrap_id (by omega) (by omega)]
    | false =>
      simp only [Bool.false_eq_true, if_false]
      rw [Int.add_zero]
theorem quota_out (ws : List Int) (hw : Digs ws) (hl : ws.length ≤ 7) (op : Nat → Bool) (C : Nat) (hC : C ≤ 128) : ∀ (d c : Nat), c ≤ C → C - c = d →
    Ev (fun k => impl_quotaOf.l0 k ws (lowN ws op c) (highN ws op c) (opL op C) (C : Int) (c : Int)) (lowN ws op C, okN ws op C) := by
  intro d
  induction d with
  | zero =>
    intro c hc hd
    obtain rfl : c = C := by omega
    refine Ev.step (f := fun _ => some (lowN ws op c, okN ws op c)) (fun k => ?_) (Ev.now _)
    simp only [impl_quotaOf.l0]
    rw [if_neg (by omega)]
    rfl
  | succ d ih =>
    intro c hc hd
    have h1 := ih (c + 1) (by omega) (by omega)
    have h2 := quota_in ws hw hl op C hC c (by omega) (lowN ws op c) (highN ws op c) _ h1 ws.length 0 (Nat.zero_le _) rfl
    have hlen := opL_len op C
    refine Ev.step (fun k => ?_) h2
    simp only [impl_quotaOf.l0]
    rw [if_pos (by omega), if_pos (by omega), if_pos (by omega), opL_at op (by omega)]
    rfl
theorem quota_is (ws : List Int) (hw : Digs ws) (hl : ws.length ≤ 7) (op : Nat → Bool) (C : Nat) (hC : C ≤ 128) : Ev (fun k => impl_quotaOf.f k ws (opL op C)) (lowN ws op C, okN ws op C) := by
  have h := quota_out ws hw hl op C hC C 0 (Nat.zero_le _) rfl
  refine Ev.congr (fun k => ?_) h
  unfold impl_quotaOf.f
  rw [opL_len]
  rfl

/-! ### the weights in turn -/
theorem set_mid (p : List Int) (d x : Int) (z : List Int) : ((p ++ [d]) ++ z).set p.length x = (p ++ [x]) ++ z := by
  induction p with
  | nil => rfl
  | cons a p ih => simp
theorem get_mid (p : List Int) (d : Int) (z : List Int) : ((p ++ [d]) ++ z).getD p.length 0 = d := by
  simp [List.getD]
/-- What the search tells. -/
def Found (n : Nat) (op : Nat → Bool) (C : Nat) (r : List Int × Int × Int) : Prop :=
  (∃ w, r = (w, lowN w op C, 0) ∧ w.length = n ∧ Digs w ∧ okN w op C = true ∧ ∀ v, v.length = n → Digs v → val v < val w → okN v op C = false) ∨
  (r = ([], 0, 6) ∧ ∀ v, v.length = n → Digs v → okN v op C = false)
theorem carry (n : Nat) (hn : n ≤ 7) (gs : List (List Int)) (op : Nat → Bool) (C : Nat) (w : List Int) (hwl : w.length = n) (hwd : Digs w) (hno : ∀ v, v.length = n → Digs v → val v ≤ val w → okN v op C = false)
    (hnext : ∀ w2, w2.length = n → Digs w2 → val w2 = val w + 1 → ∃ r, Ev (fun k => impl_FindWeights.l1 k (opL op C) w2 (n : Int) gs) r ∧ Found n op C r) :
    ∀ (m : Nat) (p : List Int) (t : Nat), p.length = m → w = p ++ List.replicate t 8 → ∃ r, Ev (fun k => impl_FindWeights.l2 k (opL op C) (p ++ List.replicate t 0) ((m : Int) - 1) (n : Int) gs) r ∧ Found n op C r := by
  intro m
  induction m with
  | zero =>
    intro p t hp hw
    obtain rfl : p = [] := List.eq_nil_of_length_eq_zero hp
    refine ⟨([], 0, 6), Ev.step (f := fun _ => some ([], 0, 6)) (fun k => ?_) (Ev.now _), .inr ⟨rfl, fun v hv hd => hno v hv hd ?_⟩⟩
    · simp only [impl_FindWeights.l2]
      rw [if_neg (by omega), if_pos (by omega)]
    · have h1 := val_bound v hd
      rw [hw, List.nil_append, val_eights]
      rw [hw] at hwl
      simp only [List.nil_append, List.length_replicate] at hwl
      rw [hv, ← hwl] at h1
      omega
  | succ m ih =>
    intro p t hp hw
    obtain ⟨q, d, rfl⟩ : ∃ q d, p = q ++ [d] := ⟨p.dropLast, p.getLast (by intro e; rw [e] at hp; simp at hp), (List.dropLast_concat_getLast _).symm⟩
    have hq : q.length = m := by simpa using hp
    have hd : 0 ≤ d ∧ d ≤ 8 := hwd d (by rw [hw]; simp)
    have hlen : ((q ++ [d]) ++ List.replicate t (0 : Int)).length = n := by
      rw [hw] at hwl
      simp at hwl ⊢
      omega
    have hm7 : m < n := by simp at hlen; omega
    have hrd : rd ((q ++ [d]) ++ List.replicate t (0 : Int)) (m : Int) = d := by rw [rd_nat, ← hq]; exact get_mid q d _
    have hidx : (((m + 1 : Nat) : Int) - 1) = (m : Int) := by omega
    have hset : ∀ x : Int, ((q ++ [d]) ++ List.replicate t (0 : Int)).set ((m : Int)).toNat x = (q ++ [x]) ++ List.replicate t 0 := fun x => by rw [Int.toNat_natCast, ← hq]; exact set_mid q d x _
    rw [hidx]
    by_cases h8 : d = 8
    · subst h8
      obtain ⟨r, hE, hF⟩ := ih q (t + 1) hq (by rw [hw, List.append_assoc]; rfl)
      have hw1 : wrap64 ((m : Int) - 1) = (m : Int) - 1 := wrap_id (by omega) (by omega)
      refine ⟨r, Ev.step (fun k => ?_) hE, hF⟩
      simp only [impl_FindWeights.l2]
      rw [if_pos (by omega), if_pos (by omega), if_pos (by omega), hrd, if_pos rfl, hset, hw1, List.append_assoc]
      rfl
    · obtain ⟨r, hE, hF⟩ := hnext ((q ++ [d + 1]) ++ List.replicate t 0) (by simp at hlen ⊢; omega) (by
        rw [hw] at hwd
        rw [digs_append, digs_append] at hwd ⊢
        refine ⟨⟨hwd.1.1, fun x hx => ?_⟩, digs_zeros t⟩
        rw [List.mem_singleton] at hx
        omega) (by rw [val_next, ← hw])
      have hwd1 : wrap64 (d + 1) = d + 1 := wrap_id (by omega) (by omega)
      refine ⟨r, Ev.step (fun k => ?_) hE, hF⟩
      simp only [impl_FindWeights.l2]
      rw [if_pos (by omega), if_pos (by omega), if_pos (by omega), hrd, if_neg h8, if_neg (by omega), hwd1, hset]
theorem search (n : Nat) (hn : n ≤ 7) (gs : List (List Int)) (op : Nat → Bool) (C : Nat) (hC : C ≤ 128) : ∀ (d : Nat) (w : List Int), w.length = n → Digs w → (9 ^ n - val w).toNat = d → (∀ v, v.length = n → Digs v → val v < val w → okN v op C = false) →
    ∃ r, Ev (fun k => impl_FindWeights.l1 k (opL op C) w (n : Int) gs) r ∧ Found n op C r := by
  intro d
  induction d using Nat.strongRecOn with
  | ind d ih =>
    intro w hwl hwd hd hno
    have hq := quota_is w hwd (by omega) op C hC
    have hb := val_bound w hwd
    rw [hwl] at hb
    cases hok : okN w op C with
    | true =>
      rw [hok] at hq
      refine ⟨(w, lowN w op C, 0), Ev.step (f := fun k => (impl_quotaOf.f k w (opL op C)).bind fun bt190 => if bt190.2 = true then some (w, bt190.1, 0) else impl_FindWeights.l2 k (opL op C) w (wrap64 ((n : Int) - 1)) (n : Int) gs) (fun k => by simp only [impl_FindWeights.l1]) (Ev.bind hq ?_), .inl ⟨w, rfl, hwl, hwd, hok, hno⟩⟩
      simp only [if_true]
      exact Ev.now _
    | false =>
      rw [hok] at hq
      have hno' : ∀ v, v.length = n → Digs v → val v ≤ val w → okN v op C = false := fun v hv hvd hle => by
        by_cases e : val v = val w
        · rw [val_inj v w (by omega) hvd hwd e]; exact hok
        · exact hno v hv hvd (by omega)
      obtain ⟨r, hE, hF⟩ := carry n hn gs op C w hwl hwd hno' (fun w2 h1 h2 h3 => by
        have hb2 := val_bound w2 h2
        rw [h1] at hb2
        exact ih (9 ^ n - val w2).toNat (by omega) w2 h1 h2 rfl (fun v hv hvd hlt => hno' v hv hvd (by omega))) n w 0 hwl (by simp)
      have hwn : wrap64 ((n : Int) - 1) = (n : Int) - 1 := wrap_id (by omega) (by omega)
      refine ⟨r, Ev.step (f := fun k => (impl_quotaOf.f k w (opL op C)).bind fun bt190 => if bt190.2 = true then some (w, bt190.1, 0) else impl_FindWeights.l2 k (opL op C) w (wrap64 ((n : Int) - 1)) (n : Int) gs) (fun k => by simp only [impl_FindWeights.l1]) (Ev.bind hq ?_), hF⟩
      simp only [Bool.false_eq_true, if_false]
      rw [hwn]
      simpa using hE
theorem find_loop (n : Nat) (hn : n ≤ 7) (gs : List (List Int)) (hs : Smalls gs) (r : List Int × Int × Int) (hend : Ev (fun k => impl_FindWeights.l1 k (opL (openN gs) (2 ^ n)) (List.replicate n 0) (n : Int) gs) r) : ∀ (d c : Nat), c ≤ 2 ^ n → 2 ^ n - c = d → Ev (fun k => impl_FindWeights.l0 k (opL (openN gs) c) (c : Int) (n : Int) gs) r := by
  have h7 := two_pow_le hn
  have hpos := Nat.two_pow_pos n
  have hev := everybody_is hn
  intro d
  induction d with
  | zero =>
    intro c hc hd
    obtain rfl : c = 2 ^ n := by omega
    refine Ev.step (fun k => ?_) hend
    simp only [impl_FindWeights.l0]
    rw [hev]
    simp only [Option.bind_some]
    rw [if_neg (by omega), if_pos (by omega), if_pos (by omega), Int.toNat_natCast]
  | succ d ih =>
    intro c hc hd
    have h1 := ih (c + 1) (by omega) (by omega)
    have hlen := opL_len (openN gs) c
    rw [opL_succ] at h1
    refine Ev.step (fun k => ?_) h1
    simp only [impl_FindWeights.l0]
    rw [hev]
    simp only [Option.bind_some]
    rw [if_pos (by omega), opens_is hs (by omega)]
    simp only [Option.bind_some]
    rw [if_pos (by omega), show (c : Int) + 1 = ((c + 1 : Nat) : Int) by omega, IntKind.wrap_u64, show ((c + 1 : Nat) : Int) % 18446744073709551616 = ((c + 1 : Nat) : Int) by omega]
theorem find_is (n : Nat) (hn : n ≤ 5) (gs : List (List Int)) (hv : ValidF (n : Int) gs) : ∃ r, Ev (fun k => impl_FindWeights.f k (n : Int) gs) r ∧ Found n (openN gs) (2 ^ n) r := by
  have h7 := two_pow_le (show n ≤ 7 by omega)
  obtain ⟨r, hE, hF⟩ := search n (by omega) gs (openN gs) (2 ^ n) h7 _ (List.replicate n 0) (by simp) (digs_zeros n) rfl (fun v hv hd hlt => by
    rw [val_zeros] at hlt
    have := val_bound v hd
    omega)
  have h0 := find_loop n (by omega) gs (smalls_of hv) r hE (2 ^ n) 0 (Nat.zero_le _) rfl
  have hvl := valid_is (n : Int) gs (valid_lens hv).1 (valid_lens hv).2
  rw [decide_eq_true hv] at hvl
  refine ⟨r, ?_, hF⟩
  unfold impl_FindWeights.f
  refine Ev.bind hvl ?_
  simp only [if_true]
  refine Ev.congr (fun k => ?_) h0
  rw [if_neg (by omega)]
  rfl

/-! ### the law's own loops -/
theorem tried_loop (l1 : List Int) (hw1 : ∀ x ∈ l1, (Lit.int .u8 x).wf = true) (n : Nat) (hn : n ≤ 7) (w : List Int) (q code : Int) (gs : List (List Int)) : ∀ (d i : Nat) (acc : List Int), i ≤ n → n - i = d → acc.length = i → Digs acc →
    ∃ tr, tr.length = n ∧ Digs tr ∧ ∀ r, Ev (fun k => laws_FnWeights.l0 k l1 w q code tr (n : Int) (n : Int) gs) r → Ev (fun k => laws_FnWeights.l0 k l1 w q code acc (i : Int) (n : Int) gs) r := by
  intro d
  induction d with
  | zero =>
    intro i acc hi hd ha hda
    obtain rfl : i = n := by omega
    exact ⟨acc, ha, hda, fun r h => h⟩
  | succ d ih =>
    intro i acc hi hd ha hda
    obtain ⟨x, e, x0, x1⟩ := at_is l1 (i : Int) 9 hw1 (by omega) (by omega)
    obtain ⟨tr, h1, h2, h3⟩ := ih (i + 1) (acc ++ [x]) (by omega) (by omega) (by simp [ha]) (by
      rw [digs_append]
      refine ⟨hda, fun y hy => ?_⟩
      rw [List.mem_singleton] at hy
      omega)
    have hw : wrap64 ((i : Int) + 1) = ((i + 1 : Nat) : Int) := by rw [wrap_id (by omega) (by omega)]; omega
    refine ⟨tr, h1, h2, fun r h => Ev.step (fun k => ?_) (h3 r h)⟩
    simp only [laws_FnWeights.l0]
    rw [if_pos (by omega), e]
    simp only [Option.bind_some]
    rw [if_pos (by omega), hw]
theorem lex_loop (a b : List Int) (hl : a.length = b.length) (hb : b.length ≤ 7) : ∀ (d i : Nat), i ≤ a.length → a.length - i = d → lexLe (a.drop i) (b.drop i) → Ev (fun k => laws_FnWeights.l1 k a b (i : Int)) true := by
  intro d
  induction d with
  | zero =>
    intro i hi hd h
    obtain rfl : i = a.length := by omega
    refine Ev.step (f := fun k => laws_FnWeights.j5 k a b (a.length : Int) false) (fun k => by simp only [laws_FnWeights.l1]; rw [if_neg (by omega)]) ?_
    exact Ev.step (f := fun _ => some true) (fun k => by simp only [laws_FnWeights.j5, Bool.false_eq_true, if_false]) (Ev.now _)
  | succ d ih =>
    intro i hi hd h
    have hia : i < a.length := by omega
    have hib : i < b.length := by omega
    rw [List.drop_eq_getElem_cons hia, List.drop_eq_getElem_cons hib] at h
    have hra : rd a (i : Int) = a[i] := by rw [rd_nat]; simp [List.getD, hia]
    have hrb : rd b (i : Int) = b[i] := by rw [rd_nat]; simp [List.getD, hib]
    have hw : wrap64 ((i : Int) + 1) = ((i + 1 : Nat) : Int) := by rw [wrap_id (by omega) (by omega)]; omega
    refine Ev.step (f := fun k => laws_FnWeights.j5 k a b (i : Int) true) (fun k => by simp only [laws_FnWeights.l1]; rw [if_pos (by omega), decide_eq_true (by omega)]) ?_
    unfold lexLe at h
    by_cases e : a[i] = b[i]
    · have h1 := ih (i + 1) (by omega) (by omega) (by
        rcases h with h | h
        · omega
        · exact h.2)
      refine Ev.step (fun k => ?_) h1
      simp only [laws_FnWeights.j5, if_true]
      rw [if_pos (by omega), if_pos (by omega), if_pos (by omega), hra, hrb, if_pos e, hw]
    · have hlt : a[i] < b[i] := by
        rcases h with h | h
        · exact h
        · exact absurd h.1 e
      refine Ev.step (f := fun _ => some true) (fun k => ?_) (Ev.now _)
      simp only [laws_FnWeights.j5, if_true]
      rw [if_pos (by omega), if_pos (by omega), if_pos (by omega), hra, hrb, if_neg e, decide_eq_true hlt]

theorem thousand {w : List Int} (h : Digs w) : ∀ x ∈ w, 0 ≤ x ∧ x ≤ 1000 := fun x hx => by have := h x hx; omega
/-- A family of weights is this one. -/
theorem fam_weigh {n : Nat} (hn1 : 1 ≤ n) (hn : n ≤ 7) {gs : List (List Int)} (hv : ValidF (n : Int) gs) {w : List Int} (hl : w.length = n) (hd : Digs w) (q : Int) :
    ValidF (n : Int) (famN n (weighP w q)) ∧ (famN n (weighP w q) = gs ↔ ∀ c, c < 2 ^ n → openN gs c = weighB w q c) := by
  have hm : Mono n (weighP w q) := by rw [← hl]; exact weighP_mono q (thousand hd) (by omega)
  refine ⟨famN_valid hn1 hn hm, ?_, ?_⟩
  · intro e c hc
    rw [← e, openN_famN hn hm hc, weigh_same w q (by rw [hl]; exact hc) (by omega)]
  · intro h
    rw [← famN_openN hn hv]
    refine famN_congr (fun c hc => ?_)
    rw [weigh_same w q (by rw [hl]; exact hc) (by omega)]
    exact (h c hc).symm

theorem FnWeights : laws_FnWeights.Pure := by
  intro l0 l1 _ _ hw0 _ _ hw1
  refine Ev.rounds (g := fun k => laws_FnWeights.f k l0 l1) ?_
  unfold laws_FnWeights.f
  rw [long_is]
  simp only [Option.bind_some]
  by_cases hlong : l0.length > 3000 ∨ l1.length > 3000
  · simp only [decide_eq_true hlong, if_true]; exact Ev.now true
  · simp only [decide_eq_false hlong, Bool.false_eq_true, if_false]
    obtain ⟨r0, e0, r00, r01⟩ := at_is l0 0 4 hw0 (by omega) (by omega)
    obtain ⟨n, hne⟩ : ∃ n : Nat, 1 + r0 = (n : Int) := ⟨(1 + r0).toNat, by omega⟩
    have hn1 : 1 ≤ n := by omega
    have hn4 : n ≤ 4 := by omega
    have hn7 : n ≤ 7 := by omega
    have hwn : wrap64 (1 + r0) = (n : Int) := by rw [wrap_id (by omega) (by omega), hne]
    obtain ⟨gs, hf, hv⟩ := famOfF_ok l0 (bytes_of hw0) (n : Int) (by omega) (by omega)
    rw [e0]
    simp only [Option.bind_some]
    rw [hwn, show spec_A2FamilyOf.f l0 (n : Int) = some ((n : Int), gs) from hf]
    simp only [Option.bind_some]
    obtain ⟨r, hE, hF⟩ := find_is n (by omega) gs hv
    refine Ev.bind hE ?_
    obtain ⟨tr, ht1, ht2, ht3⟩ := tried_loop l1 hw1 n hn7 r.1 r.2.1 r.2.2 gs n 0 [] (Nat.zero_le _) rfl rfl (fun x hx => by cases hx)
    refine ht3 true ?_
    obtain ⟨qq, eq, q0, q1⟩ := at_is l1 7 30 hw1 (by omega) (by omega)
    have hW : ∀ (w : List Int) (q : Int), w.length = n → Digs w → 0 ≤ q → q ≤ 7001 → impl_WeightedFamily.f w q = some ((n : Int), famN n (weighP w q), 0) := fun w q hl hd h0 h1 => by
      show WeightF w q = _
      unfold WeightF
      rw [if_pos ⟨⟨by omega, by omega⟩, thousand hd, h0, h1⟩, hl]
    have hS : ∀ (a b : List (List Int)), ValidF (n : Int) a → ValidF (n : Int) b → Ev (fun k => spec_SameFamily.f k (n : Int) a (n : Int) b) (decide (a = b)) := fun a b ha hb => by
      have := sameF_is (n : Int) (n : Int) a b (valid_lens ha).1 (valid_lens hb).1 (valid_lens ha).2
      rwa [show decide ((n : Int) = n ∧ a = b) = decide (a = b) from decide_eq_decide.2 ⟨fun h => h.2, fun h => ⟨rfl, h⟩⟩] at this
    obtain ⟨hgv, hgi⟩ := fam_weigh hn1 hn7 hv ht1 ht2 qq
    have hok : gs = famN n (weighP tr qq) → okN tr (openN gs) (2 ^ n) = true := fun e => weigh_ok q0 (by omega) (hgi.1 e.symm)
    have hstart : ∀ (w : List Int) (q code : Int), code = 0 ∨ code = 6 → Ev (fun k => laws_FnWeights.j1 k w q code tr false (n : Int) gs (n : Int) (famN n (weighP tr qq))) true → Ev (fun k => laws_FnWeights.l0 k l1 w q code tr (n : Int) (n : Int) gs) true := fun w q code hc h => by
      refine Ev.step (fun k => ?_) h
      simp only [laws_FnWeights.l0]
      rw [if_neg (by omega), eq]
      simp only [Option.bind_some]
      rw [hW tr qq ht1 ht2 q0 (by omega)]
      simp only [Option.bind_some, if_true]
      rcases hc with rfl | rfl
      · rw [if_pos rfl]
      · rw [if_neg (by omega)]; rfl
    rcases hF with ⟨w, rfl, hwl, hwd, hwok, hwno⟩ | ⟨rfl, hno⟩
    · refine hstart w _ 0 (.inl rfl) ?_
      have hlow0 := low_nonneg w (openN gs) (2 ^ n)
      have hlow1 := low_le w (openN gs) 7001 (by omega) (fun c => by
        have := (wbits_bound w (thousand hwd) c w.length).2
        have : (1000 : Int) * w.length ≤ 7000 := by omega
        omega) (2 ^ n)
      obtain ⟨hov, hoi⟩ := fam_weigh hn1 hn7 hv hwl hwd (lowN w (openN gs) (2 ^ n))
      have hown : famN n (weighP w (lowN w (openN gs) (2 ^ n))) = gs := hoi.2 (fun c hc => ok_weigh hwok hc)
      have hj3 : Ev (fun k => laws_FnWeights.j3 k w tr (n : Int) gs (n : Int) (famN n (weighP tr qq))) true := by
        refine Ev.step (f := fun k => (spec_SameFamily.f k (n : Int) gs (n : Int) (famN n (weighP tr qq))).bind fun t246 => if t246 = true then laws_FnWeights.l1 k w tr 0 else some true) (fun k => by simp only [laws_FnWeights.j3]) (Ev.bind (hS gs _ hv hgv) ?_)
        by_cases e : gs = famN n (weighP tr qq)
        · simp only [decide_eq_true e, if_true]
          have hle : val w ≤ val tr := by
            by_cases h : val tr < val w
            · have := hwno tr ht1 ht2 h
              rw [hok e] at this
              cases this
            · omega
          exact lex_loop w tr (by omega) (by omega) _ 0 (Nat.zero_le _) rfl (lex_of_val w tr (by omega) hwd ht2 hle)
        · simp only [decide_eq_false e, Bool.false_eq_true, if_false]
          exact Ev.now _
      refine Ev.step (f := fun k => (spec_SameFamily.f k (n : Int) gs (n : Int) gs).bind fun t238 => laws_FnWeights.j2 k w (lowN w (openN gs) (2 ^ n)) tr (!t238) (n : Int) gs (n : Int) (famN n (weighP tr qq))) (fun k => ?_) (Ev.bind (hS gs gs hv hv) ?_)
      · simp only [laws_FnWeights.j1, Bool.false_eq_true, if_false, if_true]
        rw [hW w _ hwl hwd hlow0 hlow1]
        simp only [Option.bind_some, if_true]
        rw [hown]
      · rw [decide_eq_true rfl]
        by_cases hpos : lowN w (openN gs) (2 ^ n) > 0
        · have hwq : wrap64 (lowN w (openN gs) (2 ^ n) - 1) = lowN w (openN gs) (2 ^ n) - 1 := wrap_id (by omega) (by omega)
          obtain ⟨hlv, hli⟩ := fam_weigh hn1 hn7 hv hwl hwd (lowN w (openN gs) (2 ^ n) - 1)
          have hne2 : famN n (weighP w (lowN w (openN gs) (2 ^ n) - 1)) ≠ gs := fun e => by
            obtain ⟨c, hc, h1, h2⟩ := low_sharp hpos
            have := hli.1 e c hc
            rw [h1, h2] at this
            cases this
          refine Ev.step (f := fun k => (spec_SameFamily.f k (n : Int) (famN n (weighP w (lowN w (openN gs) (2 ^ n) - 1))) (n : Int) gs).bind fun t245 => if t245 = true then some false else laws_FnWeights.j3 k w tr (n : Int) gs (n : Int) (famN n (weighP tr qq))) (fun k => ?_) (Ev.bind (hS _ gs hlv hv) ?_)
          · simp only [laws_FnWeights.j2, Bool.not_true, Bool.false_eq_true, if_false]
            rw [if_pos hpos, hwq, hW w _ hwl hwd (by omega) (by omega)]
            simp only [Option.bind_some, if_true]
          · simp only [decide_eq_false hne2, Bool.false_eq_true, if_false]
            exact hj3
        · refine Ev.step (fun k => ?_) hj3
          simp only [laws_FnWeights.j2, Bool.not_true, Bool.false_eq_true, if_false]
          rw [if_neg hpos]
    · refine hstart _ _ 6 (.inr rfl) ?_
      have hne3 : ¬ gs = famN n (weighP tr qq) := fun e => by
        have h1 := hok e
        rw [hno tr ht1 ht2] at h1
        cases h1
      refine Ev.step (f := fun k => (spec_SameFamily.f k (n : Int) gs (n : Int) (famN n (weighP tr qq))).bind fun t231 => some (!t231)) (fun k => ?_) (Ev.bind (hS gs _ hv hgv) ?_)
      · simp only [laws_FnWeights.j1, Bool.false_eq_true, if_false]
        rw [if_neg (by omega)]
      · simp only [decide_eq_false hne3, Bool.not_false]
        exact Ev.now _

end Go.Proofs.Ytgemfighmnnmeaa.Pure
