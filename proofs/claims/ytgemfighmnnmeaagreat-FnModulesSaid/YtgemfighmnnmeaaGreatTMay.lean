/- What the reference's SameFamily tells. No program in sight. What the laws' helpers on groups and families tell. No program in sight. -/
import Derived.Test.YtgemfighmnnmeaaGreatGx9
import Derived.Test.YtgemfighmnnmeaaGreatGx9
import Derived.Test.YtgemfighmnnmeaaGreatBits
import Derived.Test.YtgemfighmnnmeaaGreatGx9
import Derived.Test.YtgemfighmnnmeaaGreatTMay0
namespace Go.Proofs.YtgemfighmnnmeaaGreat.TSame
open Go.RowKit Go.Proofs.YtgemfighmnnmeaaGreatW.PrintWords Go.Proofs.YtgemfighmnnmeaaGreatW.PrintMore Go.Proofs.YtgemfighmnnmeaaGreat.G Go.Proofs.YtgemfighmnnmeaaGreat.Loops Go.Proofs.YtgemfighmnnmeaaGreat.Valid
set_option linter.unusedVariables false

theorem same_is (a b : List Int) (k : Nat) (hb : a.length ≤ 9223372036854775807) (hk : a.length < k) : spec_l00Same.f k a b = some (decide (a = b)) := by
  unfold spec_l00Same.f
  by_cases hl : a.length = b.length
  · rw [if_pos (by omega)]
    have := eq_loop (fun k i => spec_l00Same.l0 k a b i) a b hl hb (fun k i h0 h1 => by
      simp only [spec_l00Same.l0]
      rw [if_pos h1, if_pos h0, if_pos (by omega)]) (fun k => by simp only [spec_l00Same.l0]; rw [if_neg (by omega)]) a.length k 0 (by omega) (by omega) hk
    simpa using this
  · rw [if_neg (by omega)]
    congr 1
    symm
    apply decide_eq_false
    rintro rfl
    exact hl rfl
theorem sameF_loop (n m : Int) (a b : List (List Int)) (hl : a.length = b.length) (hb : a.length ≤ 9223372036854775807) (hg : ∀ g ∈ a, g.length ≤ 9223372036854775807) :
    ∀ (d i : Nat), i ≤ a.length → a.length - i = d → Ev (fun k => spec_SameFamily.l0 k (i : Int) n a m b) (decide (a.drop i = b.drop i)) := by
  intro d
  induction d with
  | zero =>
    intro i hi hd
    obtain rfl : i = a.length := by omega
    refine Ev.step (f := fun _ => some true) (fun k => by simp only [spec_SameFamily.l0]; rw [if_neg (by omega)]) ?_
    rw [List.drop_length, hl, List.drop_length]
    exact Ev.now true
  | succ d ih =>
    intro i hi hd
    have hlt : i < a.length := by omega
    have hE : Ev (fun k => spec_l00Same.f k (a.getD i []) (b.getD i [])) (decide (a.getD i [] = b.getD i [])) := ⟨(a.getD i []).length + 1, fun k hk => same_is _ _ k (by rw [getDg hlt]; exact hg _ (List.getElem_mem _)) (by omega)⟩
    refine Ev.step (f := fun k => (spec_l00Same.f k (a.getD i []) (b.getD i [])).bind fun t => if t = true then spec_SameFamily.l0 k (wrap64 ((i : Int) + 1)) n a m b else some false) (fun k => by
      simp only [spec_SameFamily.l0]
      rw [if_pos (by omega), if_pos (by omega), if_pos (by omega), rdL, rdL]) (Ev.bind hE ?_)
    have hs := drop_eq_step [] a b i hlt (by omega)
    have h1 := ih (i + 1) (by omega) (by omega)
    rw [show ((i + 1 : Nat) : Int) = wrap64 ((i : Int) + 1) from by rw [wrap_id (by omega) (by omega)]; omega] at h1
    by_cases h : a.getD i [] = b.getD i []
    · rw [decide_eq_true h, show decide (a.drop i = b.drop i) = decide (a.drop (i + 1) = b.drop (i + 1)) from decide_eq_decide.2 (hs.trans ⟨fun h' => h'.2, fun h' => ⟨h, h'⟩⟩)]
      simpa using h1
    · rw [decide_eq_false h, show decide (a.drop i = b.drop i) = false from decide_eq_false (fun h' => h (hs.1 h').1)]
      simpa using Ev.now false
theorem sameF_is (n m : Int) (a b : List (List Int)) (hb : a.length ≤ 9223372036854775807) (hb' : b.length ≤ 9223372036854775807) (hg : ∀ g ∈ a, g.length ≤ 9223372036854775807) : Ev (fun k => spec_SameFamily.f k n a m b) (decide (n = m ∧ a = b)) := by
  unfold spec_SameFamily.f
  have hstop : ∀ (q : Prop) [Decidable q], ¬ q → Ev (fun k => spec_SameFamily.j0 k true n a m b) (decide q) := fun q _ hq => by
    rw [decide_eq_false hq]
    exact Ev.step (f := fun _ => some false) (fun k => by simp only [spec_SameFamily.j0]; rw [if_pos trivial]) (Ev.now false)
  by_cases h : n = m
  · by_cases hl : a.length = b.length
    · have := sameF_loop n m a b hl hb hg a.length 0 (by omega) (by omega)
      rw [List.drop_zero, List.drop_zero] at this
      rw [show decide (n = m ∧ a = b) = decide (a = b) from decide_eq_decide.2 ⟨fun h' => h'.2, fun h' => ⟨h, h'⟩⟩]
      refine Ev.congr (f := fun k => spec_SameFamily.j0 k false n a m b) (fun k => by simp only [if_pos h, hl, bne_self_eq_false]) ?_
      exact Ev.step (fun k => by simp only [spec_SameFamily.j0]; rw [if_neg (by simp)]; rfl) this
    · refine Ev.congr (f := fun k => spec_SameFamily.j0 k true n a m b) (fun k => by
        simp only [if_pos h]
        rw [show ((a.length : Int) != (b.length : Int)) = true from by rw [bne_iff_ne]; omega]) (hstop _ (fun h' => hl (by rw [h'.2])))
  · exact Ev.congr (f := fun k => spec_SameFamily.j0 k true n a m b) (fun k => by simp only [if_neg h]) (hstop _ (fun h' => h h'.1))

end Go.Proofs.YtgemfighmnnmeaaGreat.TSame

namespace Go.Proofs.YtgemfighmnnmeaaGreat.TMay
open Go.RowKit Go.Proofs.YtgemfighmnnmeaaGreatW.PrintWords Go.Proofs.YtgemfighmnnmeaaGreatW.PrintMore Go.Proofs.YtgemfighmnnmeaaGreat.G Go.Proofs.YtgemfighmnnmeaaGreat.Fam Go.Proofs.YtgemfighmnnmeaaGreat.Loops Go.Proofs.YtgemfighmnnmeaaGreat.Bits Go.Proofs.YtgemfighmnnmeaaGreat.Valid Go.Proofs.YtgemfighmnnmeaaGreat.FamLaw Go.Proofs.YtgemfighmnnmeaaGreat.Ops Go.Proofs.YtgemfighmnnmeaaGreat.Opens Go.Proofs.YtgemfighmnnmeaaGreat.Crowds Go.Proofs.YtgemfighmnnmeaaGreat.TArg Go.Proofs.YtgemfighmnnmeaaGreat.TSame Go.Proofs.YtgemfighmnnmeaaGreat.From Go.Proofs.YtgemfighmnnmeaaGreat.Ref Go.Proofs.YtgemfighmnnmeaaGreat.Some
set_option linter.unusedVariables false
set_option maxRecDepth 100000


theorem group_loop (cd : List Int) (hb : Bytes cd) (n : Nat) (hn : n ≤ 7) : ∀ (d h c : Nat) (a s : Int), h ≤ n → n - h = d → c < 2 ^ h → 0 ≤ a → a ≤ h → ∃ c', c' < 2 ^ n ∧ Ev (fun k => spec_A2Group.l0 k (n : Int) (groupN c) (h : Int) cd a s) (groupN c') := by
  intro d
  induction d with
  | zero =>
    intro h c a s hh hd hc ha0 ha1
    obtain rfl : h = n := by omega
    refine ⟨c, hc, Ev.step (f := fun _ => some (groupN c)) (fun k => ?_) (Ev.now _)⟩
    simp only [spec_A2Group.l0]
    rw [if_neg (by omega)]
  | succ d ih =>
    intro h c a s hh hd hc ha0 ha1
    obtain ⟨b, a1, s1, e1, a10, a11⟩ := one_ok cd hb a s 2 ha0 (by omega) (by omega) (by omega)
    have hw : wrap64 ((h : Int) + 1) = ((h + 1 : Nat) : Int) := by rw [wrap_id (by omega) (by omega)]; omega
    have hc7 : c < 128 := by have h1 := Nat.pow_le_pow_right (n := 2) (by omega) (show h ≤ 7 by omega); have : (2 : Nat) ^ 7 = 128 := by decide
                             omega
    have hlen : (groupN c).length < 17592186044416 := by have := len7 (n := 7) (by omega) (groupN_is (n := 7) (c := c) (by omega) (by simpa using hc7)); omega
    cases b with
    | true =>
      obtain ⟨c', hc', hE⟩ := ih (h + 1) (c ||| 1 <<< h) a1 s1 (by omega) (by omega) (or_lt2 hc) a10 (by omega)
      refine ⟨c', hc', Ev.step (fun k => ?_) hE⟩
      simp only [spec_A2Group.l0]
      rw [if_pos (by omega), e1]
      simp only [Option.bind_some, if_true]
      rw [if_pos hlen, hw, ← snoc_all ⟨h, by omega⟩ ⟨c, hc7⟩ hc]
    | false =>
      obtain ⟨c', hc', hE⟩ := ih (h + 1) c a1 s1 (by omega) (by omega) (by rw [Nat.pow_succ]; omega) a10 (by omega)
      refine ⟨c', hc', Ev.step (fun k => ?_) hE⟩
      simp only [spec_A2Group.l0]
      rw [if_pos (by omega), e1]
      simp only [Option.bind_some, Bool.false_eq_true, if_false]
      rw [hw]
theorem group_drawn (cd : List Int) (hb : Bytes cd) (n : Nat) (hn : n ≤ 7) : ∃ c, c < 2 ^ n ∧ Ev (fun k => spec_A2Group.f k cd (n : Int)) (groupN c) := by
  obtain ⟨c, hc, hE⟩ := group_loop cd hb n hn n 0 0 0 0 (by omega) (by omega) (by simp) (by omega) (by omega)
  exact ⟨c, hc, hE⟩

/-! ### families made of families -/
theorem same_yes {n : Nat} {a b : List (List Int)} (ha : ValidF (n : Int) a) (hb : ValidF (n : Int) b) (e : a = b) : Ev (fun k => spec_SameFamily.f k (n : Int) a (n : Int) b) true := by
  have := sameF_is (n : Int) (n : Int) a b (valid_lens ha).1 (valid_lens hb).1 (valid_lens ha).2
  rwa [decide_eq_true ⟨rfl, e⟩] at this

end Go.Proofs.YtgemfighmnnmeaaGreat.TMay
