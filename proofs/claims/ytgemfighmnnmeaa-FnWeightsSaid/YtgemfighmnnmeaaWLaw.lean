/- Weights that are tried in turn, and the least quota for them. No program in sight. -/
import Derived.Test.YtgemfighmnnmeaaOps2
import Derived.Test.YtgemfighmnnmeaaSome
namespace Go.Proofs.Ytgemfighmnnmeaa.WLaw
open Go.Proofs.Ytgemfighmnnmeaa.Fam Go.Proofs.Ytgemfighmnnmeaa.Valid Go.Proofs.Ytgemfighmnnmeaa.FamLaw Go.Proofs.Ytgemfighmnnmeaa.Ops2 Go.Proofs.Ytgemfighmnnmeaa.Ref
set_option linter.unusedVariables false

/-! ### lists of digits, as numbers -/
def val : List Int → Int
  | [] => 0
  | d :: l => d * 9 ^ l.length + val l
def Digs (l : List Int) : Prop := ∀ x ∈ l, 0 ≤ x ∧ x ≤ 8
theorem pow_pos' (n : Nat) : (0 : Int) < 9 ^ n := Int.pow_pos (by decide)
theorem val_bound : ∀ (l : List Int), Digs l → 0 ≤ val l ∧ val l < 9 ^ l.length
  | [], _ => by simp [val]
  | d :: l, h => by
    have h1 := val_bound l (fun x hx => h x (List.mem_cons_of_mem _ hx))
    have h2 := h d List.mem_cons_self
    have hp := pow_pos' l.length
    simp only [val, List.length_cons, Int.pow_succ]
    generalize (9 : Int) ^ l.length = P at *
    have h3 : 0 ≤ d * P := Int.mul_nonneg h2.1 (by omega)
    have h4 : d * P ≤ 8 * P := Int.mul_le_mul_of_nonneg_right h2.2 (by omega)
    constructor <;> omega
/-- One list comes ahead of another one of its length. -/
def lexLe : List Int → List Int → Prop
  | a :: l, b :: m => a < b ∨ (a = b ∧ lexLe l m)
  | _, _ => True
theorem lex_of_val : ∀ (a b : List Int), a.length = b.length → Digs a → Digs b → val a ≤ val b → lexLe a b
  | [], [], _, _, _, _ => trivial
  | x :: a, y :: b, hl, ha, hb, h => by
    have hl' : a.length = b.length := by simpa using hl
    have ha' : Digs a := fun z hz => ha z (List.mem_cons_of_mem _ hz)
    have hb' : Digs b := fun z hz => hb z (List.mem_cons_of_mem _ hz)
    have h1 := val_bound a ha'
    have h2 := val_bound b hb'
    simp only [val, hl'] at h h1
    have hp := pow_pos' b.length
    unfold lexLe
    by_cases hxy : x < y
    · exact .inl hxy
    · by_cases he : x = y
      · subst he
        exact .inr ⟨rfl, lex_of_val a b hl' ha' hb' (by omega)⟩
      · exfalso
        have h3 : y + 1 ≤ x := by omega
        have h4 : (y + 1) * 9 ^ b.length ≤ x * 9 ^ b.length := Int.mul_le_mul_of_nonneg_right h3 (by omega)
        rw [Int.add_mul, Int.one_mul] at h4
        generalize (9 : Int) ^ b.length = P at *
        generalize x * P = X at *
        generalize y * P = Y at *
        omega
  | [], _ :: _, hl, _, _, _ => by simp at hl
  | _ :: _, [], hl, _, _, _ => by simp at hl
theorem val_inj : ∀ (a b : List Int), a.length = b.length → Digs a → Digs b → val a = val b → a = b
  | [], [], _, _, _, _ => rfl
  | x :: a, y :: b, hl, ha, hb, h => by
    have hl' : a.length = b.length := by simpa using hl
    have h1 := lex_of_val (x :: a) (y :: b) hl ha hb (by omega)
    have h2 := lex_of_val (y :: b) (x :: a) hl.symm hb ha (by omega)
    unfold lexLe at h1 h2
    have hxy : x = y := by
      rcases h1 with h1 | h1 <;> rcases h2 with h2 | h2
      · omega
      · omega
      · omega
      · exact h1.1
    subst hxy
    simp only [val, hl'] at h
    rw [val_inj a b hl' (fun z hz => ha z (List.mem_cons_of_mem _ hz)) (fun z hz => hb z (List.mem_cons_of_mem _ hz)) (by omega)]
  | [], _ :: _, hl, _, _, _ => by simp at hl
  | _ :: _, [], hl, _, _, _ => by simp at hl
theorem val_append : ∀ (a b : List Int), val (a ++ b) = val a * 9 ^ b.length + val b
  | [], b => by simp [val]
  | x :: a, b => by
    simp only [List.cons_append, val, val_append a b, List.length_append, Int.pow_add, Int.add_mul]
    rw [Int.mul_assoc]
    omega
theorem val_zeros : ∀ t : Nat, val (List.replicate t 0) = 0
  | 0 => rfl
  | t + 1 => by simp only [List.replicate_succ, val, val_zeros t]; omega
theorem val_eights : ∀ t : Nat, val (List.replicate t 8) = 9 ^ t - 1
  | 0 => rfl
  | t + 1 => by simp only [List.replicate_succ, val, val_eights t, List.length_replicate, Int.pow_succ]; omega
theorem val_next (p : List Int) (d : Int) (t : Nat) : val (p ++ [d + 1] ++ List.replicate t 0) = val (p ++ [d] ++ List.replicate t 8) + 1 := by
  rw [val_append, val_append, val_append, val_append, val_zeros, val_eights]
  simp only [val, List.length_replicate, List.length_cons, List.length_nil, Int.pow_zero, Int.mul_one]
  have : (val p * 9 ^ (0 + 1) + (d + 1 + 0)) * 9 ^ t = (val p * 9 ^ (0 + 1) + (d + 0)) * 9 ^ t + 9 ^ t := by
    rw [show val p * 9 ^ (0 + 1) + (d + 1 + 0) = (val p * 9 ^ (0 + 1) + (d + 0)) + 1 by omega, Int.add_mul, Int.one_mul]
  rw [this]
  omega
theorem digs_eights (t : Nat) : Digs (List.replicate t 8) := fun x hx => by rw [List.eq_of_mem_replicate hx]; omega
theorem digs_zeros (t : Nat) : Digs (List.replicate t 0) := fun x hx => by rw [List.eq_of_mem_replicate hx]; omega
theorem digs_append {a b : List Int} : Digs (a ++ b) ↔ Digs a ∧ Digs b := by
  unfold Digs
  constructor
  · intro h
    exact ⟨fun x hx => h x (List.mem_append.2 (.inl hx)), fun x hx => h x (List.mem_append.2 (.inr hx))⟩
  · rintro ⟨h1, h2⟩ x hx
    rcases List.mem_append.1 hx with h | h
    · exact h1 x h
    · exact h2 x h

/-! ### the least quota -/
theorem wsum_bits (ws : List Int) (c : Nat) (hc : c < 2 ^ ws.length) (h7 : ws.length ≤ 7) : wsum ws (groupN c) = wbits ws c ws.length := by
  have key : ∀ h, wsum ws (((List.range h).filter c.testBit).map fun k : Nat => (k : Int)) = wbits ws c h := by
    intro h
    induction h with
    | zero => rfl
    | succ h ih =>
      rw [List.range_succ, List.filter_append, List.map_append, wbits_succ]
      cases hb : c.testBit h with
      | true => simp only [List.filter_cons, hb, if_true, List.filter_nil, List.map_cons, List.map_nil]; rw [wsum_snoc, ih, Int.toNat_natCast]
      | false => simp only [List.filter_cons, hb, Bool.false_eq_true, if_false, List.filter_nil, List.map_nil, List.append_nil]; rw [ih]; omega
  have hk := key 7
  have hsame : ∀ m, ws.length ≤ m → wbits ws c m = wbits ws c ws.length := by
    intro m hm
    induction m with
    | zero => rw [show ws.length = 0 by omega]
    | succ m ih =>
      by_cases he : ws.length = m + 1
      · rw [he]
      · rw [wbits_succ, ih (by omega), Nat.testBit_lt_two_pow (Nat.lt_of_lt_of_le hc (Nat.pow_le_pow_right (by omega) (by omega)))]
        simp
  rw [hsame 7 h7] at hk
  exact hk
theorem weigh_same (ws : List Int) (q : Int) {c : Nat} (hc : c < 2 ^ ws.length) (h7 : ws.length ≤ 7) : weighP ws q c = weighB ws q c := by
  unfold weighP weighB
  rw [wsum_bits ws c hc h7]
theorem weighP_mono {ws : List Int} (q : Int) (hw : ∀ x ∈ ws, 0 ≤ x ∧ x ≤ 1000) (h7 : ws.length ≤ 7) : Mono ws.length (weighP ws q) := by
  intro c d hc hd hs hp
  rw [weigh_same ws q hc h7] at hp
  rw [weigh_same ws q hd h7]
  exact weighB_mono ws.length ws q hw c d hc hd hs hp
def lowN (ws : List Int) (op : Nat → Bool) : Nat → Int
  | 0 => 0
  | c + 1 => if op c = true then lowN ws op c else max (lowN ws op c) (wbits ws c ws.length + 1)
def highN (ws : List Int) (op : Nat → Bool) : Nat → Int
  | 0 => 9223372036854775807
  | c + 1 => if op c = true then min (highN ws op c) (wbits ws c ws.length) else highN ws op c
theorem low_nonneg (ws : List Int) (op : Nat → Bool) : ∀ c, 0 ≤ lowN ws op c
  | 0 => Int.le_refl 0
  | c + 1 => by
    have := low_nonneg ws op c
    unfold lowN
    split <;> omega
theorem low_le (ws : List Int) (op : Nat → Bool) (B : Int) (h0 : 0 ≤ B) (hb : ∀ c, wbits ws c ws.length + 1 ≤ B) : ∀ c, lowN ws op c ≤ B
  | 0 => h0
  | c + 1 => by
    have := low_le ws op B h0 hb c
    have := hb c
    unfold lowN
    split <;> omega
theorem low_above (ws : List Int) (op : Nat → Bool) : ∀ C c, c < C → op c = false → wbits ws c ws.length + 1 ≤ lowN ws op C
  | 0, c, h, _ => by omega
  | C + 1, c, h, ho => by
    unfold lowN
    by_cases e : c = C
    · subst e
      rw [ho, if_neg (by simp)]
      omega
    · have := low_above ws op C c (by omega) ho
      split <;> omega
theorem low_is (ws : List Int) (op : Nat → Bool) : ∀ C, lowN ws op C = 0 ∨ ∃ c, c < C ∧ op c = false ∧ lowN ws op C = wbits ws c ws.length + 1
  | 0 => .inl rfl
  | C + 1 => by
    have ih := low_is ws op C
    unfold lowN
    cases ho : op C with
    | true =>
      rw [if_pos rfl]
      rcases ih with h | ⟨c, hc, h1, h2⟩
      · exact .inl h
      · exact .inr ⟨c, by omega, h1, h2⟩
    | false =>
      rw [if_neg (by simp)]
      by_cases h : lowN ws op C ≤ wbits ws C ws.length + 1
      · exact .inr ⟨C, by omega, ho, by omega⟩
      · rw [show max (lowN ws op C) (wbits ws C ws.length + 1) = lowN ws op C by omega]
        rcases ih with h' | ⟨c, hc, h1, h2⟩
        · exact .inl h'
        · exact .inr ⟨c, by omega, h1, h2⟩
theorem high_below (ws : List Int) (op : Nat → Bool) : ∀ C c, c < C → op c = true → highN ws op C ≤ wbits ws c ws.length
  | 0, c, h, _ => by omega
  | C + 1, c, h, ho => by
    unfold highN
    by_cases e : c = C
    · subst e
      rw [ho, if_pos rfl]
      omega
    · have := high_below ws op C c (by omega) ho
      split <;> omega
theorem high_above (ws : List Int) (op : Nat → Bool) (B : Int) (hB : B ≤ 9223372036854775807) : ∀ C, (∀ c, c < C → op c = true → B ≤ wbits ws c ws.length) → B ≤ highN ws op C
  | 0, _ => hB
  | C + 1, h => by
    have := high_above ws op B hB C (fun c hc => h c (by omega))
    unfold highN
    split
    · have := h C (by omega) ‹_›
      omega
    · exact this
/-- There is a quota. -/
def okN (ws : List Int) (op : Nat → Bool) (C : Nat) : Bool := decide (lowN ws op C ≤ highN ws op C)
theorem ok_weigh {ws : List Int} {op : Nat → Bool} {C : Nat} (h : okN ws op C = true) {c : Nat} (hc : c < C) : op c = weighB ws (lowN ws op C) c := by
  have h1 := of_decide_eq_true h
  unfold weighB
  cases ho : op c with
  | true =>
    have := high_below ws op C c hc ho
    symm
    apply decide_eq_true
    omega
  | false =>
    have := low_above ws op C c hc ho
    symm
    apply decide_eq_false
    omega
theorem weigh_ok {ws : List Int} {op : Nat → Bool} {C : Nat} {q : Int} (h0 : 0 ≤ q) (hq : q ≤ 9223372036854775807) (h : ∀ c, c < C → op c = weighB ws q c) : okN ws op C = true := by
  apply decide_eq_true
  have h1 : lowN ws op C ≤ q := by
    rcases low_is ws op C with e | ⟨c, hc, ho, e⟩
    · omega
    · have := h c hc
      rw [ho] at this
      have h2 := of_decide_eq_false this.symm
      omega
  have h2 : q ≤ highN ws op C := high_above ws op q hq C (fun c hc ho => by
    have := h c hc
    rw [ho] at this
    exact of_decide_eq_true this.symm)
  omega
theorem low_sharp {ws : List Int} {op : Nat → Bool} {C : Nat} (h : 0 < lowN ws op C) : ∃ c, c < C ∧ op c = false ∧ weighB ws (lowN ws op C - 1) c = true := by
  rcases low_is ws op C with e | ⟨c, hc, ho, e⟩
  · omega
  · refine ⟨c, hc, ho, decide_eq_true ?_⟩
    omega
end Go.Proofs.Ytgemfighmnnmeaa.WLaw
