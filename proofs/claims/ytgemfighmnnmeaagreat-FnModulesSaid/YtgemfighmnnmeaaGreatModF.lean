/- Modules, in bits: spread sets, who makes a difference, and when all agree. No program in sight. What the printed functions on modules compute, as plain numbers. No program in sight. -/
import Derived.Test.YtgemfighmnnmeaaGreatBits
import Derived.Test.YtgemfighmnnmeaaGreatRenLaw
import Derived.Test.YtgemfighmnnmeaaGreatGx5
import Derived.Test.YtgemfighmnnmeaaGreatGx5
import Derived.Test.YtgemfighmnnmeaaGreatGx6
import Derived.Test.YtgemfighmnnmeaaGreatGx6
import Derived.Test.YtgemfighmnnmeaaGreatTabs
import Derived.Test.YtgemfighmnnmeaaGreatOk
import Derived.Test.YtgemfighmnnmeaaGreatSTab
namespace Go.Proofs.YtgemfighmnnmeaaGreat.ModN
open Go.Proofs.YtgemfighmnnmeaaGreat.Fam Go.Proofs.YtgemfighmnnmeaaGreat.Valid Go.Proofs.YtgemfighmnnmeaaGreat.FamLaw Go.Proofs.YtgemfighmnnmeaaGreat.RenLaw
set_option linter.unusedVariables false
set_option maxRecDepth 100000

/-- The holders of a list whose places are in a number: those of the first places. -/
def spreadK (g : List Int) (c i : Nat) : Nat := (List.range i).foldl (fun d j => if c.testBit j = true then d ||| 1 <<< (g.getD j 0).toNat else d) 0
def spreadN (g : List Int) (c : Nat) : Nat := spreadK g c g.length
theorem spreadK_zero (g : List Int) (c : Nat) : spreadK g c 0 = 0 := rfl
theorem spreadK_succ (g : List Int) (c i : Nat) : spreadK g c (i + 1) = if c.testBit i = true then spreadK g c i ||| 1 <<< (g.getD i 0).toNat else spreadK g c i := by
 unfold spreadK
 rw [List.range_succ, List.foldl_append]
 rfl
theorem spreadK_bit (g : List Int) (c i x : Nat) : (spreadK g c i).testBit x = true ↔ ∃ j, j < i ∧ c.testBit j = true ∧ (g.getD j 0).toNat = x := by
 unfold spreadK
 rw [fold_bit (fun j => (g.getD j 0).toNat) (fun j => c.testBit j)]
 simp only [Nat.zero_testBit, Bool.false_or, List.any_eq_true, List.mem_range, Bool.and_eq_true, decide_eq_true_iff]
theorem getD_mem {g : List Int} {j : Nat} (h : j < g.length) : g.getD j 0 ∈ g := by
 rw [show g.getD j 0 = g[j] by simp [List.getD, h]]
 exact List.getElem_mem h
theorem spreadK_lt {n : Nat} {g : List Int} (hg : ∀ x ∈ g, 0 ≤ x ∧ x < (n : Int)) (c : Nat) {i : Nat} (hi : i ≤ g.length) : spreadK g c i < 2 ^ n := by
 apply Nat.lt_pow_two_of_testBit
 intro x hx
 cases h : (spreadK g c i).testBit x with
 | false => rfl
 | true =>
  obtain ⟨j, hj, _, he⟩ := (spreadK_bit g c i x).1 h
  have := hg _ (getD_mem (show j < g.length by omega))
  omega
theorem spread_lt {n : Nat} {g : List Int} (hg : ∀ x ∈ g, 0 ≤ x ∧ x < (n : Int)) (c : Nat) : spreadN g c < 2 ^ n := spreadK_lt hg c (Nat.le_refl _)
theorem spread_bit (g : List Int) (c x : Nat) : (spreadN g c).testBit x = true ↔ ∃ j, j < g.length ∧ c.testBit j = true ∧ (g.getD j 0).toNat = x := spreadK_bit g c g.length x
theorem bits_iff (g : List Int) (x : Nat) : (bitsN g).testBit x = true ↔ ∃ j, j < g.length ∧ (g.getD j 0).toNat = x := by
 rw [bitsN_test, List.any_eq_true]
 constructor
 ·
  rintro ⟨h, hh, e⟩
  obtain ⟨j, hj, rfl⟩ := List.mem_iff_getElem.1 hh
  exact ⟨j, hj, by rw [show g.getD j 0 = g[j] by simp [List.getD, hj]]; exact of_decide_eq_true e⟩
 ·
  rintro ⟨j, hj, e⟩
  exact ⟨g.getD j 0, getD_mem hj, decide_eq_true e⟩
theorem spread_sub (g : List Int) (c : Nat) : bitsN g &&& spreadN g c = spreadN g c := by
 rw [covers_iff]
 intro x hx
 obtain ⟨j, hj, _, e⟩ := (spread_bit g c x).1 hx
 exact (bits_iff g x).2 ⟨j, hj, e⟩
theorem spread_all (g : List Int) : spreadN g (2 ^ g.length - 1) = bitsN g := by
 apply Nat.eq_of_testBit_eq
 intro x
 rw [Bool.eq_iff_iff, spread_bit, bits_iff]
 constructor
 ·
  rintro ⟨j, hj, _, e⟩
  exact ⟨j, hj, e⟩
 ·
  rintro ⟨j, hj, e⟩
  exact ⟨j, hj, by rw [Nat.testBit_two_pow_sub_one]; exact decide_eq_true hj, e⟩
theorem spread_none (g : List Int) : spreadN g 0 = 0 := by
 apply Nat.eq_of_testBit_eq
 intro x
 rw [Nat.zero_testBit]
 cases h : (spreadN g 0).testBit x with
 | false => rfl
 | true =>
  obtain ⟨j, _, hc, _⟩ := (spread_bit g 0 x).1 h
  rw [Nat.zero_testBit] at hc
  cases hc
/-- The places of a number's holders in a list. -/
def partN (g : List Int) (y : Nat) : Nat := (List.range g.length).foldl (fun d j => if y.testBit (g.getD j 0).toNat = true then d ||| 1 <<< j else d) 0
theorem part_bit (g : List Int) (y j : Nat) : (partN g y).testBit j = true ↔ j < g.length ∧ y.testBit (g.getD j 0).toNat = true := by
 unfold partN
 rw [fold_bit (fun j => j) (fun j => y.testBit (g.getD j 0).toNat)]
 simp only [Nat.zero_testBit, Bool.false_or, List.any_eq_true, List.mem_range, Bool.and_eq_true, decide_eq_true_iff]
 constructor
 ·
  rintro ⟨k, hk, h, rfl⟩
  exact ⟨hk, h⟩
 ·
  rintro ⟨hj, h⟩
  exact ⟨j, hj, h, rfl⟩
theorem part_lt (g : List Int) (y : Nat) : partN g y < 2 ^ g.length := by
 apply Nat.lt_pow_two_of_testBit
 intro i hi
 cases h : (partN g y).testBit i with
 | false => rfl
 | true => have := (part_bit g y i).1 h; omega
theorem spread_part {g : List Int} {y : Nat} (h : bitsN g &&& y = y) : spreadN g (partN g y) = y := by
 rw [covers_iff] at h
 apply Nat.eq_of_testBit_eq
 intro x
 rw [Bool.eq_iff_iff, spread_bit]
 constructor
 ·
  rintro ⟨j, hj, hp, rfl⟩
  exact ((part_bit g y j).1 hp).2
 ·
  intro hx
  obtain ⟨j, hj, e⟩ := (bits_iff g x).1 (h x hx)
  exact ⟨j, hj, (part_bit g y j).2 ⟨hj, by rw [e]; exact hx⟩, e⟩

/-! ### who makes a difference -/
/-- With these others the group makes a difference. -/
def rel (gs : List (List Int)) (m x : Nat) : Bool := !openN gs x && openN gs (x ||| m)
def relO (gs : List (List Int)) (m x : Nat) : Bool := decide (x &&& m = 0) && rel gs m x
/-- The others below x agree. -/
def agree (gs : List (List Int)) (m X : Nat) : Prop := ∀ a b, a < X → b < X → relO gs m a = true → relO gs m b = true → ∀ y, m &&& y = y → openN gs (a ||| y) = openN gs (b ||| y)
def agreeB (n : Nat) (gs : List (List Int)) (m X : Nat) : Bool := (List.range X).all fun a => (List.range X).all fun b => !(relO gs m a && relO gs m b) || (List.range (2 ^ n)).all fun y => !decide (m &&& y = y) || (openN gs (a ||| y) == openN gs (b ||| y))
theorem sub_lt {n m y : Nat} (hm : m < 2 ^ n) (h : m &&& y = y) : y < 2 ^ n := Nat.lt_of_le_of_lt (by rw [← h]; exact Nat.and_le_left) hm
theorem agree_iff {n : Nat} {gs : List (List Int)} {m X : Nat} (hm : m < 2 ^ n) : agreeB n gs m X = true ↔ agree gs m X := by
 unfold agreeB agree
 simp only [List.all_eq_true, List.mem_range, Bool.or_eq_true, Bool.not_eq_true', Bool.and_eq_false_iff, decide_eq_false_iff_not, beq_iff_eq]
 constructor
 ·
  intro h a b ha hb ra rb y hy
  rcases h a ha b hb with (h1 | h1) | h1
  ·
   rw [ra] at h1; cases h1
  ·
   rw [rb] at h1; cases h1
  ·
   rcases h1 y (sub_lt hm hy) with h2 | h2
   ·
    exact absurd hy h2
   ·
    exact h2
 ·
  intro h a ha b hb
  cases ra : relO gs m a with
  | false => exact .inl (.inl rfl)
  | true =>
   cases rb : relO gs m b with
   | false => exact .inl (.inr rfl)
   | true =>
    refine .inr (fun y hy => ?_)
    by_cases e : m &&& y = y
    ·
     exact .inr (h a b ha hb ra rb y e)
    ·
     exact .inl e
/-- A group is a module. -/
def isModB (n : Nat) (gs : List (List Int)) (g : List Int) : Bool := decide (0 < g.length) && agreeB n gs (bitsN g) (2 ^ n)
/-- A module's part opens, where it makes a difference. -/
def ownP (gs : List (List Int)) (m X y : Nat) : Bool := (List.range X).any fun x => relO gs m x && openN gs (x ||| y)
theorem ownP_succ (gs : List (List Int)) (m X y : Nat) : ownP gs m (X + 1) y = (ownP gs m X y || (relO gs m X && openN gs (X ||| y))) := by
 unfold ownP
 rw [List.range_succ, List.any_append]
 simp
def anyRel (gs : List (List Int)) (m X : Nat) : Bool := (List.range X).any fun x => relO gs m x
theorem anyRel_succ (gs : List (List Int)) (m X : Nat) : anyRel gs m (X + 1) = (anyRel gs m X || relO gs m X) := by
 unfold anyRel
 rw [List.range_succ, List.any_append]
 simp
theorem anyRel_iff {gs : List (List Int)} {m X : Nat} : anyRel gs m X = true ↔ ∃ x, x < X ∧ relO gs m x = true := by
 unfold anyRel
 rw [List.any_eq_true]
 simp
theorem ownP_of {gs : List (List Int)} {m X a y : Nat} (h : agree gs m X) (ha : a < X) (ra : relO gs m a = true) (hy : m &&& y = y) : ownP gs m X y = openN gs (a ||| y) := by
 rw [Bool.eq_iff_iff]
 unfold ownP
 rw [List.any_eq_true]
 constructor
 ·
  rintro ⟨x, hx, hp⟩
  simp only [Bool.and_eq_true] at hp
  rw [h a x ha (List.mem_range.1 hx) ra hp.1 y hy]
  exact hp.2
 ·
  intro hp
  exact ⟨a, List.mem_range.2 ha, by rw [ra, hp]; rfl⟩
theorem ownP_none {gs : List (List Int)} {m X y : Nat} (h : anyRel gs m X = false) : ownP gs m X y = false := by
 unfold ownP
 rw [List.any_eq_false]
 intro x hx hp
 simp only [Bool.and_eq_true] at hp
 have : anyRel gs m X = true := anyRel_iff.2 ⟨x, List.mem_range.1 hx, hp.1⟩
 rw [this] at h; cases h
theorem agree_skip {gs : List (List Int)} {m X : Nat} (h : relO gs m X = false) : agree gs m (X + 1) ↔ agree gs m X := by
 constructor
 ·
  intro ha a b h1 h2 h3 h4
  exact ha a b (by omega) (by omega) h3 h4
 ·
  intro ha a b h1 h2 h3 h4
  have ea : a ≠ X := fun e => by subst e; rw [h] at h3; cases h3
  have eb : b ≠ X := fun e => by subst e; rw [h] at h4; cases h4
  exact ha a b (by omega) (by omega) h3 h4
theorem agree_step {gs : List (List Int)} {m X : Nat} (ha : agree gs m X) (hr : relO gs m X = true) (hs : anyRel gs m X = true → ∀ y, m &&& y = y → ownP gs m X y = openN gs (X ||| y)) : agree gs m (X + 1) := by
 have key : ∀ a, a < X → relO gs m a = true → ∀ y, m &&& y = y → openN gs (a ||| y) = openN gs (X ||| y) := fun a h1 h2 y hy => by
  rw [← hs (anyRel_iff.2 ⟨a, h1, h2⟩) y hy, ownP_of ha h1 h2 hy]
 intro a b h1 h2 h3 h4 y hy
 by_cases ea : a = X
 ·
  by_cases eb : b = X
  ·
   rw [ea, eb]
  ·
   rw [ea, key b (by omega) h4 y hy]
 ·
  by_cases eb : b = X
  ·
   rw [eb, key a (by omega) h3 y hy]
  ·
   exact ha a b (by omega) (by omega) h3 h4 y hy
theorem agree_not {gs : List (List Int)} {m X Y : Nat} (hY : X < Y) (hr : relO gs m X = true) (hs : anyRel gs m X = true) (ha : agree gs m X) {y : Nat} (hy : m &&& y = y) (hne : ownP gs m X y ≠ openN gs (X ||| y)) : ¬ agree gs m Y := by
 intro h
 obtain ⟨a, h1, h2⟩ := anyRel_iff.1 hs
 apply hne
 rw [ownP_of ha h1 h2 hy]
 exact h a X (by omega) hY h2 hr y hy
theorem agree_le {gs : List (List Int)} {m X Y : Nat} (h : X ≤ Y) (ha : agree gs m Y) : agree gs m X := fun a b h1 h2 => ha a b (by omega) (by omega)

/-! ### the others of a group, by their places in the rest -/
/-- The rest of a group, as a set. -/
def restM (n m : Nat) : Nat := (2 ^ n - 1) &&& (2 ^ n - 1 - m)
theorem rest_bit {n m : Nat} (hm : m < 2 ^ n) (i : Nat) : (2 ^ n - 1 - m).testBit i = (decide (i < n) && !m.testBit i) := by
 have := Nat.testBit_two_pow_sub_succ hm i
 rwa [show 2 ^ n - (m + 1) = 2 ^ n - 1 - m by omega] at this
theorem out_iff {n m x : Nat} (hm : m < 2 ^ n) (hx : x < 2 ^ n) : x &&& m = 0 ↔ (2 ^ n - 1 - m) &&& x = x := by
 rw [covers_iff]
 constructor
 ·
  intro h j hj
  rw [rest_bit hm, decide_eq_true (lt_of_bit hx hj), Bool.true_and]
  have := congrArg (fun z => z.testBit j) h
  simp only [Nat.testBit_and, hj, Bool.true_and, Nat.zero_testBit] at this
  rw [this]; rfl
 ·
  intro h
  apply Nat.eq_of_testBit_eq
  intro j
  rw [Nat.testBit_and, Nat.zero_testBit]
  cases hj : x.testBit j with
  | false => rfl
  | true =>
   have := h j hj
   rw [rest_bit hm] at this
   simp only [Bool.and_eq_true, Bool.not_eq_true'] at this
   rw [this.2]; rfl
end Go.Proofs.YtgemfighmnnmeaaGreat.ModN

namespace Go.Proofs.YtgemfighmnnmeaaGreat.ModF
open Go.RowKit Go.Lib Go.Proofs Go.Proofs.YtgemfighmnnmeaaGreatW.PrintWords Go.Proofs.YtgemfighmnnmeaaGreatW.PrintWords.Kd Go.Proofs.YtgemfighmnnmeaaGreatW.PrintLast Go.Proofs.YtgemfighmnnmeaaGreatW.PrintMore Go.Proofs.YtgemfighmnnmeaaGreat.G Go.Proofs.YtgemfighmnnmeaaGreat.Fam Go.Proofs.YtgemfighmnnmeaaGreat.Loops Go.Proofs.YtgemfighmnnmeaaGreat.Bits Go.Proofs.YtgemfighmnnmeaaGreat.Valid Go.Proofs.YtgemfighmnnmeaaGreat.FamLaw Go.Proofs.YtgemfighmnnmeaaGreat.Opens Go.Proofs.YtgemfighmnnmeaaGreat.ModN Go.Proofs.YtgemfighmnnmeaaGreat.Ok Go.Proofs.YtgemfighmnnmeaaGreat.Ref Go.Proofs.YtgemfighmnnmeaaGreat.SDual
set_option linter.unusedVariables false
set_option linter.unusedSimpArgs false
set_option maxRecDepth 100000

theorem next_is {i : Nat} (h : i < 9223372036854775807) : wrap64 ((i : Int) + 1) = ((i + 1 : Nat) : Int) := by rw [wrap_id (by omega) (by omega)]; omega
theorem next_u {c : Nat} (hc : c < 256) : IntKind.u64.wrap ((c : Int) + 1) = ((c + 1 : Nat) : Int) := by rw [IntKind.wrap_u64]; omega
theorem small_spread {g : List Int} (hg : Small g) (c : Nat) {i : Nat} (hi : i ≤ g.length) : spreadK g c i < 128 := by
 have := spreadK_lt (n := 7) hg c hi
 simpa using this
theorem spread_loop (g : List Int) (hg : Small g) (hl : g.length ≤ 7) (c : Nat) (hc : c < 128) : ∀ (d i : Nat), i ≤ g.length → g.length - i = d → Ev (fun k => impl_spread.l0 k (c : Int) ((spreadK g c i : Nat) : Int) g (g.length : Int) (i : Int)) ((spreadN g c : Nat) : Int) := by
 intro d
 induction d with
 | zero =>
  intro i hi hd
  obtain rfl : i = g.length := by omega
  refine Ev.step (f := fun _ => some ((spreadN g c : Nat) : Int)) (fun k => ?_) (Ev.now _)
  simp only [impl_spread.l0]
  rw [if_neg (by omega)]
  rfl
 | succ d ih =>
  intro i hi hd
  have hlt : i < g.length := by omega
  have h1 := ih (i + 1) (by omega) (by omega)
  have hx := hg _ (getD_mem hlt)
  have hs := small_spread hg c hi
  rw [spreadK_succ] at h1
  cases ht : c.testBit i with
  | false =>
   rw [ht, if_neg (by simp)] at h1
   refine Ev.step (fun k => ?_) h1
   simp only [impl_spread.l0]
   rw [if_pos (by omega), if_pos (by omega), if_pos (by omega), has_is hc (by omega), ht]
   simp only [Option.bind_some, Bool.false_eq_true, if_false]
   rw [next_is (by omega)]
  | true =>
   rw [ht, if_pos rfl] at h1
   refine Ev.step (fun k => ?_) h1
   simp only [impl_spread.l0]
   rw [if_pos (by omega), if_pos (by omega), if_pos (by omega), has_is hc (by omega), ht]
   simp only [Option.bind_some, if_true]
   rw [rd_nat, if_pos hx.1, next_is (by omega)]
   obtain ⟨y, hy⟩ : ∃ y : Nat, g.getD i 0 = (y : Int) := ⟨(g.getD i 0).toNat, by omega⟩
   rw [hy, or_is hs (by omega), Int.toNat_natCast]
theorem spread_is (g : List Int) (hg : Small g) (hl : g.length ≤ 7) (c : Nat) (hc : c < 128) : Ev (fun k => impl_spread.f k g (c : Int)) ((spreadN g c : Nat) : Int) :=
 spread_loop g hg hl c hc g.length 0 (Nat.zero_le _) rfl
theorem spread_calls (A : Option Addr) (cap : Nat) (g : List Int) (hg : Small g) (hl : g.length ≤ 7) (c : Nat) (hc : c < 128) (W : World) (hC : Kd.C (Kd.int .i64) W A g.length g) (hcap : g.length ≤ cap) :
  Calls Tryz.prog 29 #[.slice A g.length cap, .int .u64 (c : Int)] W fun e w' => e = .returned (.int .u64 ((spreadN g c : Nat) : Int)) ∧ ∃ q, w' = W.drewN q := by
 obtain ⟨k, hk⟩ := (spread_is g hg hl c hc).rounds
 exact (impl_spread.calls k A cap g (c : Int) _ W hC hcap hk).mono fun e w' ⟨he, hd⟩ => ⟨he, hd.out⟩

/-! ### the rest of a group -/
theorem rest_all : ∀ n : Fin 8, ∀ m : Fin 128, m.val < 2 ^ n.val → Go.bits .andNot .u64 ((2 ^ n.val - 1 : Nat) : Int) ((m.val : Nat) : Int) = ((2 ^ n.val - 1 - m.val : Nat) : Int) := by decide +kernel
/-- The rest of a group, as a list. -/
def restG (n : Nat) (g : List Int) : List Int := groupN (2 ^ n - 1 - bitsN g)
theorem restG_bits {n : Nat} (hn : n ≤ 7) (g : List Int) : bitsN (restG n g) = 2 ^ n - 1 - bitsN g := bitsN_groupN (by have := two_pow_le hn; have := Nat.two_pow_pos n; omega)
theorem restG_is {n : Nat} (hn : n ≤ 7) (g : List Int) : isGroupN n (restG n g) := groupN_is hn (by have := Nat.two_pow_pos n; omega)
theorem glen {n : Nat} (hn : n ≤ 7) {g : List Int} (h : isGroupN n g) : g.length ≤ n := by
 have h1 : ∀ (l : List Int) (a b : Int), l.Pairwise (· < ·) → (∀ x ∈ l, a ≤ x ∧ x < b) → a ≤ b → (l.length : Int) ≤ b - a := by
  intro l
  induction l with
  | nil => intro a b _ _ _; simp; omega
  | cons x l ih =>
   intro a b hp hb hab
   rw [List.pairwise_cons] at hp
   have hx := hb x List.mem_cons_self
   have := ih (x + 1) b hp.2 (fun y hy => ⟨by have := hp.1 y hy; omega, (hb y (List.mem_cons_of_mem _ hy)).2⟩) (by omega)
   simp only [List.length_cons]
   omega
 have := h1 g 0 n h.2 (fun x hx => h.1 x hx) (by omega)
 omega
theorem others_is {n : Nat} (hn : n ≤ 7) {g : List Int} (hg : isGroupN n g) : Ev (fun k => impl_others.f k (n : Int) g) (restG n g) := by
 have h7 := two_pow_le hn
 have hlt := bitsN_lt hg.1
 have hl := glen hn hg
 unfold impl_others.f
 rw [everybody_is hn]
 simp only [Option.bind_some]
 refine Ev.bind (a := ((bitsN g : Nat) : Int)) ⟨8, fun k hk => crowdOf_is g k (by omega) (small_of hn hg) (by omega)⟩ ?_
 rw [rest_all ⟨n, by omega⟩ ⟨bitsN g, by omega⟩ hlt]
 exact Ev.bind ⟨9, fun k hk => group_is (c := 2 ^ n - 1 - bitsN g) (by have := Nat.two_pow_pos n; omega) hk⟩ (Ev.now _)
theorem others_calls {n : Nat} (hn : n ≤ 7) (A : Option Addr) (cap : Nat) {g : List Int} (hg : isGroupN n g) (W : World) (hC : Kd.C (Kd.int .i64) W A g.length g) (hcap : g.length ≤ cap) :
  Calls Tryz.prog 25 #[.int .i64 (n : Int), .slice A g.length cap] W fun e w' => ∃ v, e = .returned v ∧ Kd.R (Kd.int .i64) 2 w' W.heap.size (fun _ => True) v (restG n g) ∧ Below W.heap.size W w' := by
 obtain ⟨k, hk⟩ := (others_is hn hg).rounds
 exact impl_others.calls k (n : Int) A cap g _ W hC hcap hk

/-! ### the answers of a group's parts -/
def ansL (gs : List (List Int)) (g : List Int) (x : Nat) : List Bool := tab (fun c => openN gs (x ||| spreadN g c)) (2 ^ g.length)
theorem or128 {a b : Nat} (ha : a < 128) (hb : b < 128) : a ||| b < 128 := Nat.or_lt_two_pow (n := 7) ha hb
theorem ans_loop (n : Int) (gs : List (List Int)) (hs : Smalls gs) (g : List Int) (hg : Small g) (hl : g.length ≤ 7) (x : Nat) (hx : x < 128) : ∀ (d c : Nat), c ≤ 2 ^ g.length → 2 ^ g.length - c = d →
  Ev (fun k => impl_Family_answers.l0 k g (x : Int) (tab (fun c => openN gs (x ||| spreadN g c)) c) (c : Int) n gs) (ansL gs g x) := by
 have h7 := two_pow_le hl
 have hpos := Nat.two_pow_pos g.length
 intro d
 induction d with
 | zero =>
  intro c hc hd
  obtain rfl : c = 2 ^ g.length := by omega
  refine Ev.step (f := fun _ => some (ansL gs g x)) (fun k => ?_) (Ev.now _)
  simp only [impl_Family_answers.l0]
  rw [everybody_is hl]
  simp only [Option.bind_some]
  rw [if_neg (by omega)]
  rfl
 | succ d ih =>
  intro c hc hd
  have h1 := ih (c + 1) (by omega) (by omega)
  rw [tab_succ] at h1
  have hsp : spreadN g c < 128 := by have := spread_lt (n := 7) hg c; simpa using this
  have hop : impl_Family_opens.f n gs (((x ||| spreadN g c : Nat)) : Int) = some (openN gs (x ||| spreadN g c)) := by
   show opensF gs _ = _
   unfold opensF
   have := or128 hx hsp
   rw [if_pos ⟨hs, by omega, by omega⟩]
   rfl
  refine Ev.step (f := fun k => (impl_spread.f k g (c : Int)).bind fun t169 => ((impl_Family_opens.f n gs (Go.bits .or .u64 (x : Int) t169)).bind fun t170 => (if (tab (fun c => openN gs (x ||| spreadN g c)) c).length < 140737488355328 then (impl_Family_answers.l0 k g (x : Int) (tab (fun c => openN gs (x ||| spreadN g c)) c ++ [t170]) ((c + 1 : Nat) : Int) n gs) else (none)))) (fun k => ?_) (Ev.bind (spread_is g hg hl c (by omega)) ?_)
  ·
   simp only [impl_Family_answers.l0]
   rw [everybody_is hl]
   simp only [Option.bind_some]
   rw [if_pos (by omega), next_u (by omega)]
  ·
   rw [u64_or_nat _ _ (by omega) (by omega), hop]
   simp only [Option.bind_some]
   exact Ev.congr (fun k => by rw [if_pos (by rw [tab_len]; omega)]) h1
theorem ans_calls (n : Int) (A : Option Addr) (cap : Nat) (gs : List (List Int)) (hs : Smalls gs) (A' : Option Addr) (cap' : Nat) (g : List Int) (hg : Small g) (hl : g.length ≤ 7) (x : Nat) (hx : x < 128) (W : World)
  (hC : Kd.C (Kd.slice 2 (Kd.int .i64)) W A gs.length gs) (hcap : gs.length ≤ cap) (hC' : Kd.C (Kd.int .i64) W A' g.length g) (hcap' : g.length ≤ cap') :
  Calls Tryz.prog 48 #[.agg #[.int .i64 n, .slice A gs.length cap], .slice A' g.length cap', .int .u64 (x : Int)] W fun e w' => ∃ v, e = .returned v ∧ Kd.R Kd.bool 4 w' W.heap.size (fun _ => True) v (ansL gs g x) ∧ Below W.heap.size W w' := by
 obtain ⟨k, hk⟩ := (ans_loop n gs hs g hg hl x hx (2 ^ g.length) 0 (Nat.zero_le _) rfl).rounds
 exact impl_Family_answers.calls k n A cap gs A' cap' g (x : Int) _ W hC hcap hC' hcap' hk
theorem equalB_loop (a b : List Bool) (hl : a.length = b.length) (ha : a.length ≤ 128) : ∀ (d i : Nat), i ≤ a.length → a.length - i = d → Ev (fun k => slices_Equal_bool_bool.l0 k a b (a.length : Int) (i : Int)) (decide (a.drop i = b.drop i)) := by
 intro d
 induction d with
 | zero =>
  intro i hi hd
  obtain rfl : i = a.length := by omega
  rw [List.drop_length, hl, List.drop_length]
  refine Ev.step (f := fun _ => some true) (fun k => ?_) (Ev.now true)
  simp only [slices_Equal_bool_bool.l0]
  rw [if_neg (by omega)]
 | succ d ih =>
  intro i hi hd
  have hlt : i < a.length := by omega
  have hs := drop_eq_step false a b i hlt (by omega)
  have h1 := ih (i + 1) (by omega) (by omega)
  have e1 : rdOf false a (i : Int) = a.getD i false := by simp [rdOf]
  have e2 : rdOf false b (i : Int) = b.getD i false := by simp [rdOf]
  by_cases h : a.getD i false = b.getD i false
  ·
   rw [show decide (a.drop i = b.drop i) = decide (a.drop (i + 1) = b.drop (i + 1)) from decide_eq_decide.2 (hs.trans ⟨fun h' => h'.2, fun h' => ⟨h, h'⟩⟩)]
   refine Ev.step (fun k => ?_) h1
   simp only [slices_Equal_bool_bool.l0]
   rw [if_pos (by omega), if_pos (by omega), if_pos (by omega), if_pos (by omega), e1, e2, h, bne_self_eq_false, if_neg (by simp), next_is (by omega)]
  ·
   rw [decide_eq_false (fun h' => h (hs.1 h').1)]
   refine Ev.step (f := fun _ => some false) (fun k => ?_) (Ev.now false)
   simp only [slices_Equal_bool_bool.l0]
   rw [if_pos (by omega), if_pos (by omega), if_pos (by omega), if_pos (by omega), e1, e2, if_pos (by rw [bne_iff_ne]; exact h)]
theorem equalB_calls (A A' : Option Addr) (c c' : Nat) (a b : List Bool) (hl : a.length = b.length) (ha : a.length ≤ 128) (W : World) (hC : Kd.C Kd.bool W A a.length a) (hc : a.length ≤ c) (hC' : Kd.C Kd.bool W A' b.length b) (hc' : b.length ≤ c') :
  Calls Tryz.prog 49 #[.slice A a.length c, .slice A' b.length c'] W fun e w' => e = .returned (.bool (decide (a = b))) ∧ ∃ q, w' = W.drewN q := by
 have hE : Ev (fun k => slices_Equal_bool_bool.f k a b) (decide (a = b)) := by
  have := equalB_loop a b hl ha a.length 0 (Nat.zero_le _) rfl
  rw [List.drop_zero, List.drop_zero] at this
  unfold slices_Equal_bool_bool.f
  exact this.congr (fun k => by rw [if_pos (by omega)]; rfl)
 obtain ⟨k, hk⟩ := hE.rounds
 exact (slices_Equal_bool_bool.calls k A c a A' c' b _ W hC hc hC' hc' hk).mono fun e w' ⟨he, hd⟩ => ⟨he, hd.out⟩
/-- Two answers are one just where all parts agree. -/
theorem ans_eq {gs : List (List Int)} {g : List Int} {a b : Nat} : ansL gs g a = ansL gs g b ↔ ∀ y, bitsN g &&& y = y → openN gs (a ||| y) = openN gs (b ||| y) := by
 unfold ansL tab
 constructor
 ·
  intro h y hy
  have h1 : ∀ c, c < 2 ^ g.length → openN gs (a ||| spreadN g c) = openN gs (b ||| spreadN g c) := fun c hc => by
   have := congrArg (fun l => l.getD c false) h
   simpa [List.getD, hc] using this
  have := h1 (partN g y) (part_lt g y)
  rwa [spread_part hy] at this
 ·
  intro h
  apply List.map_congr_left
  intro c _
  exact h _ (spread_sub g c)

end Go.Proofs.YtgemfighmnnmeaaGreat.ModF
