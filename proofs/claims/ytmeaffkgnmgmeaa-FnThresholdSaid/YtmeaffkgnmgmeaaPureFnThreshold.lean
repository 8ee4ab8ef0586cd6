/- The plain law of FnThreshold: what the printed functions compute answers true. No program in sight. -/
import Derived.Test.YtmeaffkgnmgmeaaGx6
import Derived.Test.YtmeaffkgnmgmeaaGx4
import Derived.Test.YtmeaffkgnmgmeaaGx5
import Derived.Test.YtmeaffkgnmgmeaaTSame
import Derived.Test.YtmeaffkgnmgmeaaTArg
import Derived.Test.YtmeaffkgnmgmeaaFamLaw
namespace Go.Proofs.Ytmeaffkgnmgmeaa.Pure
open Go.RowKit Go.Proofs.YtmeaffkgnmgmeaaW.PrintWords Go.Proofs.YtmeaffkgnmgmeaaW.PrintMore Go.Proofs.Ytmeaffkgnmgmeaa.G Go.Proofs.Ytmeaffkgnmgmeaa.Loops Go.Proofs.Ytmeaffkgnmgmeaa.Bits Go.Proofs.Ytmeaffkgnmgmeaa.Fam Go.Proofs.Ytmeaffkgnmgmeaa.Valid Go.Proofs.Ytmeaffkgnmgmeaa.FamLaw Go.Proofs.Ytmeaffkgnmgmeaa.Ops Go.Proofs.Ytmeaffkgnmgmeaa.Ops2 Go.Proofs.Ytmeaffkgnmgmeaa.TSame Go.Proofs.Ytmeaffkgnmgmeaa.TArg Go.Proofs.Ytmeaffkgnmgmeaa.Opens
set_option linter.unusedVariables false
set_option maxRecDepth 100000

/-! ### sizes -/
theorem sizes_mono : ∀ c : Fin 128, ∀ d : Fin 128, d.val &&& c.val = c.val → sizeN c.val ≤ sizeN d.val := by decide +kernel
theorem thresh_mono {n : Nat} (hn : n ≤ 7) (k : Int) : Mono n (threshP k) := by
  intro c d hc hd hs hp
  have h7 := two_pow_le hn
  have := sizes_mono ⟨c, by omega⟩ ⟨d, by omega⟩ hs
  unfold threshP at *
  simp only [decide_eq_true_eq] at *
  have h2 : sizeN c ≤ sizeN d := this
  omega
theorem sizes_rest : ∀ n : Fin 8, ∀ c : Fin 128, c.val < 2 ^ n.val → sizeN (2 ^ n.val - 1 - c.val) + sizeN c.val = n.val := by decide +kernel
/-- Two holders exchanged. -/
def exchN (c a b : Nat) : Nat := if c.testBit a != c.testBit b then c ^^^ (1 <<< a ||| 1 <<< b) else c
theorem exch_all : ∀ c : Fin 128, ∀ a : Fin 7, ∀ b : Fin 7, impl_crowd_exchanged.f ((c.val : Nat) : Int) ((a.val : Nat) : Int) ((b.val : Nat) : Int) = some ((exchN c.val a.val b.val : Nat) : Int) := by decide +kernel
theorem exch_size : ∀ c : Fin 128, ∀ a : Fin 7, ∀ b : Fin 7, sizeN (exchN c.val a.val b.val) = sizeN c.val ∧ exchN c.val a.val b.val < 128 := by decide +kernel
theorem exch_lt {n c a b : Nat} (hc : c < 2 ^ n) (ha : a < n) (hb : b < n) : exchN c a b < 2 ^ n := by
  unfold exchN
  split
  · apply Nat.xor_lt_two_pow hc
    apply Nat.or_lt_two_pow
    · rw [Nat.one_shiftLeft]; exact Nat.pow_lt_pow_right (by omega) ha
    · rw [Nat.one_shiftLeft]; exact Nat.pow_lt_pow_right (by omega) hb
  · exact hc
theorem wsum_ones (n : Nat) (g : List Int) (hg : ∀ x ∈ g, 0 ≤ x ∧ x < (n : Int)) : wsum (List.replicate n 1) g = g.length := by
  unfold wsum
  have gen : ∀ (g : List Int) (s : Int), (∀ x ∈ g, 0 ≤ x ∧ x < (n : Int)) → g.foldl (fun s h => s + (List.replicate n (1 : Int)).getD h.toNat 0) s = s + g.length := by
    intro g
    induction g with
    | nil => intro s _; simp
    | cons a g ih =>
      intro s h
      have ha := h a (by simp)
      have : (List.replicate n (1 : Int)).getD a.toNat 0 = 1 := by
        rw [List.getD_eq_getElem?_getD, List.getElem?_replicate]
        rw [if_pos (by omega)]; rfl
      rw [List.foldl_cons, this, ih _ (fun x hx => h x (by simp [hx])), List.length_cons]
      omega
  rw [gen g 0 hg]; omega

/-! ### all holders are alike -/
theorem opens_some {gs : List (List Int)} {n : Nat} (hg : Smalls gs) {c : Nat} (hc : c < 128) (m : Int) : impl_Family_opens.f m gs (c : Int) = some (openN gs c) := by
  show opensF gs (c : Int) = _
  unfold opensF
  rw [if_pos ⟨hg, by omega, by omega⟩]
  rfl
theorem alike_loop (n : Nat) (hn : n ≤ 7) (gs : List (List Int)) (hg : Smalls gs) (a b : Nat) (ha : a < n) (hb : b < n) (hall : ∀ c, c < 2 ^ n → openN gs c = openN gs (exchN c a b)) :
    ∀ (d c : Nat), c ≤ 2 ^ n → 2 ^ n - c = d → Ev (fun k => impl_Family_alike.l0 k (a : Int) (b : Int) (c : Int) (n : Int) gs) true := by
  have h7 := two_pow_le hn
  have hpos := Nat.two_pow_pos n
  intro d
  induction d with
  | zero =>
    intro c hc hd
    refine Ev.step (f := fun _ => some true) (fun k => by
      simp only [impl_Family_alike.l0]
      rw [everybody_is hn]
      simp only [Option.bind_some]
      rw [if_neg (by omega)]) (Ev.now true)
  | succ d ih =>
    intro c hc hd
    have hlt : c < 2 ^ n := by omega
    refine Ev.step (f := fun k => impl_Family_alike.l0 k (a : Int) (b : Int) ((c + 1 : Nat) : Int) (n : Int) gs) (fun k => by
      simp only [impl_Family_alike.l0]
      rw [everybody_is hn]
      simp only [Option.bind_some]
      rw [if_pos (by omega), opens_some (n := n) hg (by omega), exch_all ⟨c, by omega⟩ ⟨a, by omega⟩ ⟨b, by omega⟩]
      simp only [Option.bind_some]
      rw [opens_some (n := n) hg (by have := exch_lt hlt ha hb; omega)]
      simp only [Option.bind_some]
      rw [if_neg (by rw [hall c hlt]; simp)]
      rw [show IntKind.u64.wrap ((c : Int) + 1) = ((c + 1 : Nat) : Int) from by rw [IntKind.wrap_u64]; omega]) (ih (c + 1) (by omega) (by omega))
theorem alikes_loop (n : Nat) (hn : n ≤ 7) (gs : List (List Int)) (hal : ∀ a b, a < n → b < n → Ev (fun k => impl_Family_alike.f k (n : Int) gs (a : Int) (b : Int)) true) :
    ∀ (d h : Nat), 1 ≤ h → h ≤ n → n - h = d → Ev (fun k => impl_AlikeHolders.l0 k (List.replicate h 0) 1 (n : Int) (h : Int) (n : Int) gs) (List.replicate n 0, 0) := by
  intro d
  induction d with
  | zero =>
    intro h h1 hh hd
    obtain rfl : h = n := by omega
    exact Ev.step (f := fun _ => some (List.replicate h 0, 0)) (fun k => by simp only [impl_AlikeHolders.l0]; rw [if_neg (by omega)]) (Ev.now _)
  | succ d ih =>
    intro h h1 hh hd
    have hrd : rd (List.replicate h 0) 0 = 0 := by
      unfold rd
      rw [List.getD_eq_getElem?_getD, List.getElem?_replicate]
      split <;> rfl
    refine Ev.step (f := fun k => impl_AlikeHolders.l1 k (List.replicate h 0) 1 (h : Int) 1 (n : Int) (h : Int) (h : Int) 0 (n : Int) gs) (fun k => by simp only [impl_AlikeHolders.l0]; rw [if_pos (by omega)]) ?_
    refine Ev.step (f := fun k => (impl_Family_alike.f k (n : Int) gs ((0 : Nat) : Int) (h : Int)).bind fun t => if t = true then impl_AlikeHolders.l0 k (List.replicate (h + 1) 0) 1 (n : Int) ((h + 1 : Nat) : Int) (n : Int) gs else impl_AlikeHolders.l1 k (List.replicate h 0) 1 (h : Int) 1 (n : Int) (h : Int) (h : Int) (wrap64 (0 + 1)) (n : Int) gs) (fun k => by
      simp only [impl_AlikeHolders.l1]
      rw [if_pos (by omega)]
      congr 1
      funext t
      cases t with
      | false => rfl
      | true =>
        simp only [if_true]
        rw [if_pos (by omega), if_pos (by rw [List.length_replicate]; omega), hrd, if_neg (by omega), if_pos (by rw [List.length_replicate]; omega), wrap_id (by omega) (by omega), ← List.replicate_succ']
        rfl) (Ev.bind (hal 0 h (by omega) (by omega)) ?_)
    exact ih (h + 1) (by omega) (by omega) (by omega)
theorem alikes_is (n : Nat) (hn1 : 1 ≤ n) (hn : n ≤ 7) (gs : List (List Int)) (hv : ValidF (n : Int) gs) (hl : gs.length ≤ 9223372036854775807) (hgl : ∀ g ∈ gs, g.length ≤ 9223372036854775807) (hall : ∀ a b, a < n → b < n → ∀ c, c < 2 ^ n → openN gs c = openN gs (exchN c a b)) :
    Ev (fun k => impl_AlikeHolders.f k (n : Int) gs) (List.replicate n 0, 0) := by
  have hg := smalls_of hv
  have hal : ∀ a b, a < n → b < n → Ev (fun k => impl_Family_alike.f k (n : Int) gs (a : Int) (b : Int)) true := fun a b ha hb => alike_loop n hn gs hg a b ha hb (hall a b ha hb) _ 0 (Nat.zero_le _) rfl
  unfold impl_AlikeHolders.f
  refine Ev.bind (valid_is (n : Int) gs hl hgl) ?_
  rw [decide_eq_true hv]
  simp only [if_true]
  refine Ev.step (f := fun k => impl_AlikeHolders.l1 k [] 0 0 0 (n : Int) 0 0 0 (n : Int) gs) (fun k => by simp only [impl_AlikeHolders.l0]; rw [if_pos (by omega)]) ?_
  refine Ev.step (f := fun k => impl_AlikeHolders.l0 k [0] 1 (n : Int) 1 (n : Int) gs) (fun k => by simp only [impl_AlikeHolders.l1]; rw [if_neg (by omega), if_pos trivial, if_pos (by simp), wrap_id (i := 0 + 1) (by omega) (by omega)]; rfl) ?_
  exact alikes_loop n hn gs hal (n - 1) 1 (by omega) hn1 rfl
theorem zeros_loop (n : Nat) (hn : n ≤ 7) : ∀ (d i : Nat), i ≤ n → n - i = d → Ev (fun k => laws_a2Zeros.l0 k (List.replicate n 0) (i : Int)) true := by
  intro d
  induction d with
  | zero =>
    intro i hi hd
    exact Ev.step (f := fun _ => some true) (fun k => by simp only [laws_a2Zeros.l0]; rw [if_neg (by rw [List.length_replicate]; omega)]) (Ev.now true)
  | succ d ih =>
    intro i hi hd
    refine Ev.step (f := fun k => laws_a2Zeros.l0 k (List.replicate n 0) ((i + 1 : Nat) : Int)) (fun k => by
      simp only [laws_a2Zeros.l0]
      rw [if_pos (by rw [List.length_replicate]; omega), if_pos (by omega), if_pos (by
        unfold rd
        rw [List.getD_eq_getElem?_getD, List.getElem?_replicate]
        split <;> rfl), wrap_id (by omega) (by omega)]
      rfl) (ih (i + 1) (by omega) (by omega))

/-! ### the law -/
theorem ones_loop (n : Nat) (hn : n ≤ 7) (k0 : Int) (code : Int) (m : Int) (gs : List (List Int)) (r : Bool)
    (hend : Ev (fun k => laws_FnThreshold.l0 k (n : Int) k0 code (List.replicate n 1) (n : Int) m gs) r) : ∀ (d i : Nat), i ≤ n → n - i = d → Ev (fun k => laws_FnThreshold.l0 k (n : Int) k0 code (List.replicate i 1) (i : Int) m gs) r := by
  intro d
  induction d with
  | zero =>
    intro i hi hd
    obtain rfl : i = n := by omega
    exact hend
  | succ d ih =>
    intro i hi hd
    refine Ev.step (f := fun k => laws_FnThreshold.l0 k (n : Int) k0 code (List.replicate (i + 1) 1) ((i + 1 : Nat) : Int) m gs) (fun k => by
      simp only [laws_FnThreshold.l0]
      rw [if_pos (by omega), if_pos (by rw [List.length_replicate]; omega), wrap_id (by omega) (by omega), ← List.replicate_succ']
      rfl) (ih (i + 1) (by omega) (by omega))
theorem famlen {n : Nat} (hn : n ≤ 7) (p : Nat → Bool) : (famN n p).length ≤ 128 ∧ ∀ g ∈ famN n p, g.length ≤ 7 := by
  have h7 := two_pow_le hn
  constructor
  · unfold famN crowdsN
    rw [(sort_perm _).length_eq, List.length_map]
    have := List.length_filter_le (leastN n p) (List.range (2 ^ n))
    rw [List.length_range] at this
    omega
  · intro g hg
    obtain ⟨c, _, _, rfl⟩ := mem_crowdsN.1 hg
    unfold groupN
    rw [List.length_map]
    have := List.length_filter_le c.testBit (List.range 7)
    simpa using this
theorem law (n : Nat) (k0 : Int) (hn1 : 1 ≤ n) (hn : n ≤ 7) (h0 : 0 ≤ k0) (hk : k0 ≤ (n : Int) + 1) : Ev (fun k => laws_FnThreshold.l0 k (n : Int) k0 0 (List.replicate n 1) (n : Int) (n : Int) (famN n (threshP k0))) true := by
  have h7 := two_pow_le hn
  have hm := thresh_mono hn k0
  have hv := famN_valid hn1 hn hm
  have hopen : ∀ c, c < 2 ^ n → openN (famN n (threshP k0)) c = threshP k0 c := fun c hc => openN_famN hn hm hc
  have hW : impl_WeightedFamily.f (List.replicate n 1) k0 = some ((n : Int), famN n (threshP k0), 0) := by
    show WeightF _ _ = _
    unfold WeightF
    rw [if_pos ⟨by rw [List.length_replicate]; omega, fun x hx => by have := List.eq_of_mem_replicate hx; omega, h0, by omega⟩, List.length_replicate]
    congr 2
    rw [famN_congr (p := weighP (List.replicate n 1) k0) (q := threshP k0) (fun c hc => by
      unfold weighP threshP sizeN
      rw [wsum_ones n _ (groupN_is hn hc).1])]
  have hD : impl_DualFamily.f (n : Int) (famN n (threshP k0)) = some ((n : Int), famN n (threshP ((n : Int) + 1 - k0)), 0) := by
    show some (DualF _ _) = _
    unfold DualF
    rw [if_pos hv, Int.toNat_natCast]
    rw [famN_congr (p := dualP n (famN n (threshP k0))) (q := threshP ((n : Int) + 1 - k0)) (fun c hc => by
      unfold dualP
      rw [hopen _ (by omega)]
      have := sizes_rest ⟨n, by omega⟩ ⟨c, by omega⟩ hc
      unfold threshP
      have h2 : sizeN (2 ^ n - 1 - c) + sizeN c = n := this
      rw [Bool.eq_iff_iff]
      simp
      omega)]
  have hT : impl_ThresholdFamily.f (n : Int) (wrap64 ((wrap64 ((n : Int) + 1)) - k0)) = some ((n : Int), famN n (threshP ((n : Int) + 1 - k0)), 0) := by
    show ThreshF _ _ = _
    rw [wrap_id (i := (n : Int) + 1) (by omega) (by omega), wrap_id (by omega) (by omega)]
    unfold ThreshF
    rw [if_pos ⟨by omega, by omega, by omega⟩]
    rfl
  have fl := famlen hn (threshP k0)
  have hA : Ev (fun k => impl_AlikeHolders.f k (n : Int) (famN n (threshP k0))) (List.replicate n 0, 0) :=
    alikes_is n hn1 hn _ hv (by have := fl.1; omega) (fun g hg => by have := fl.2 g hg; omega) (fun a b ha hb c hc => by
      rw [hopen c hc, hopen _ (exch_lt hc ha hb)]
      unfold threshP
      have := (exch_size ⟨c, by omega⟩ ⟨a, by omega⟩ ⟨b, by omega⟩).1
      have h2 : sizeN (exchN c a b) = sizeN c := this
      rw [h2])
  have hS : ∀ p, Ev (fun k => spec_SameFamily.f k (n : Int) (famN n p) (n : Int) (famN n p)) true := fun p => by
    have := sameF_is (n : Int) (n : Int) (famN n p) (famN n p) (by have := (famlen hn p).1; omega) (by have := (famlen hn p).1; omega) (fun g hg => by have := (famlen hn p).2 g hg; omega)
    simpa using this
  have hZ : Ev (fun k => laws_a2Zeros.f k (List.replicate n 0)) true := zeros_loop n hn n 0 (by omega) rfl
  refine Ev.step (f := fun k => (impl_AlikeHolders.f k (n : Int) (famN n (threshP k0))).bind fun bt212 => if bt212.2 = 0 then ((spec_SameFamily.f k (n : Int) (famN n (threshP k0)) (n : Int) (famN n (threshP k0))).bind fun t216 => if t216 = true then ((spec_SameFamily.f k (n : Int) (famN n (threshP ((n : Int) + 1 - k0))) (n : Int) (famN n (threshP ((n : Int) + 1 - k0)))).bind fun t217 => if t217 = true then (if (bt212.1.length : Int) = (n : Int) then ((laws_a2Zeros.f k bt212.1).bind fun t218 => some t218) else some false) else some false) else some false) else some false) (fun k => by
    simp only [laws_FnThreshold.l0]
    rw [if_neg (by omega), hW]
    simp only [Option.bind_some]
    rw [hD]
    simp only [Option.bind_some]
    rw [hT]
    simp only [Option.bind_some, if_true]) (Ev.bind hA ?_)
  simp only [if_true, List.length_replicate]
  refine Ev.bind (hS _) ?_
  simp only [if_true]
  refine Ev.bind (hS _) ?_
  simp only [if_true]
  exact Ev.bind hZ (Ev.now true)

theorem FnThreshold : laws_FnThreshold.Pure := by
  intro l0 l1 _ _ hw0 _ _ hw1
  unfold laws_FnThreshold.f
  rw [long_is]
  simp only [Option.bind_some]
  by_cases hlong : l0.length > 3000 ∨ l1.length > 3000
  · exact ⟨0, by rw [if_pos (decide_eq_true hlong)]⟩
  · obtain ⟨r, hr, hr0, hr1⟩ := at_is l0 0 7 hw0 (by omega) (by omega)
    rw [hr]
    simp only [Option.bind_some]
    have e1 : wrap64 (1 + r) = 1 + r := wrap_id (by omega) (by omega)
    have e2 : wrap64 (1 + r + 2) = 1 + r + 2 := wrap_id (by omega) (by omega)
    rw [e1, e2]
    obtain ⟨s, hs, hs0, hs1⟩ := at_is l1 0 (1 + r + 2) hw1 (by omega) (by omega)
    rw [hs]
    simp only [Option.bind_some]
    obtain ⟨n, hn⟩ : ∃ n : Nat, 1 + r = (n : Int) := ⟨(1 + r).toNat, by omega⟩
    rw [hn]
    have hT : impl_ThresholdFamily.f (n : Int) s = some ((n : Int), famN n (threshP s), 0) := by
      show ThreshF _ _ = _
      unfold ThreshF
      rw [if_pos ⟨by omega, by omega, by omega⟩]
      rfl
    rw [hT]
    simp only [Option.bind_some]
    have := ones_loop n (by omega) s 0 (n : Int) (famN n (threshP s)) true (law n s (by omega) (by omega) hs0 (by omega)) n 0 (by omega) rfl
    obtain ⟨k, hk⟩ := this.rounds
    exact ⟨k, by rw [if_neg (by simpa using hlong)]; exact hk⟩

end Go.Proofs.Ytmeaffkgnmgmeaa.Pure
