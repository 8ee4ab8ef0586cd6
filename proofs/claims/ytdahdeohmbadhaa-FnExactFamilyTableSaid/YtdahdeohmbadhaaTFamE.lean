/- FamilyTable: what both sides tell, in plain terms. FamilyTable: both sides tell the plain table. FnExactFamilyTable answers true. -/
import Derived.Test.YtdahdeohmbadhaaTFamC
import Derived.Test.YtdahdeohmbadhaaTRep
import Derived.Test.YtdahdeohmbadhaaOkV
import Derived.Test.YtdahdeohmbadhaaTTail
import Derived.Test.YtdahdeohmbadhaaTGath
import Derived.Test.YtdahdeohmbadhaaGx10
import Derived.Test.YtdahdeohmbadhaaGx10
import Derived.Test.YtdahdeohmbadhaaGx11
import Derived.Test.YtdahdeohmbadhaaGx10
import Derived.Test.YtdahdeohmbadhaaGx11
import Derived.Test.YtdahdeohmbadhaaGx11
import Derived.Test.YtdahdeohmbadhaaTFamI
import Derived.Test.YtdahdeohmbadhaaTFamS
import Derived.Test.YtdahdeohmbadhaaExFamilyTable
namespace Go.Proofs.Ytdahdeohmbadhaa.TFam
open Go.RowKit Go.Lib Go.Proofs Go.Proofs.YtdahdeohmbadhaaW.PrintWords Go.Proofs.YtdahdeohmbadhaaW.PrintWords.Kd Go.Proofs.YtdahdeohmbadhaaW.PrintLast Go.Proofs.YtdahdeohmbadhaaW.PrintMore Go.Proofs.Ytdahdeohmbadhaa.G Go.Proofs.Ytdahdeohmbadhaa.Fam Go.Proofs.Ytdahdeohmbadhaa.Loops Go.Proofs.Ytdahdeohmbadhaa.MarkT Go.Proofs.Ytdahdeohmbadhaa.TSort Go.Proofs.Ytdahdeohmbadhaa.TCmp Go.Proofs.Ytdahdeohmbadhaa.TLess Go.Proofs.Ytdahdeohmbadhaa.TShape Go.Proofs.Ytdahdeohmbadhaa.TOk Go.Proofs.Ytdahdeohmbadhaa.TValid Go.Proofs.Ytdahdeohmbadhaa.TMerge Go.Proofs.Ytdahdeohmbadhaa.ExTC Go.Proofs.Ytdahdeohmbadhaa.TMade Go.Proofs.Ytdahdeohmbadhaa.TGather Go.Proofs.Ytdahdeohmbadhaa.TLists Go.Proofs.Ytdahdeohmbadhaa.Valid
set_option linter.unusedVariables false
set_option linter.unusedSimpArgs false

/-! ### powers -/
def powN (s m : Nat) : Nat := if s ^ m ≤ 700 then s ^ m else 701
theorem pow_up {s m : Nat} (hs : 1 ≤ s) : s ^ m ≤ s ^ (m + 1) := Nat.pow_le_pow_right hs (Nat.le_succ m)
theorem times_is {s : Nat} (hs : 1 ≤ s ∧ s ≤ 64) {m : Nat} (hm : m ≤ 1000) : Ev (fun k => impl_times.f k (s : Int) (m : Int) 700) (powN s m : Int) := by
 have hloop : ∀ (d i : Nat), i + d = m → Ev (fun k => impl_times.l0 k (s : Int) 700 (powN s i : Int) (m : Int) (i : Int)) (powN s m : Int) := by
  intro d
  induction d with
  | zero =>
   intro i hi
   obtain rfl : i = m := by omega
   refine Ev.step (f := fun _ => some (powN s i : Int)) (fun k => ?_) (Ev.now _)
   simp only [impl_times.l0]
   exact if_neg (by omega)
  | succ d ih =>
   intro i hi
   have o1 : (i : Int) < (m : Int) := by omega
   have hup := pow_up (m := i) hs.1
   have hps : s ^ (i + 1) = s ^ i * s := Nat.pow_succ ..
   have hN : (powN s (i + 1) : Int) = mn 701 ((powN s i * s : Nat) : Int) ∧ powN s i * s ≤ 1000000 := by
    unfold powN mn
    by_cases h : s ^ i ≤ 700
    ·
     rw [if_pos h, hps]
     have hle : s ^ i * s ≤ 700 * 64 := Nat.mul_le_mul h hs.2
     by_cases h2 : s ^ i * s ≤ 700
     ·
      rw [if_pos h2, if_pos (by omega)]
      exact ⟨rfl, by omega⟩
     ·
      rw [if_neg h2]
      refine ⟨?_, by omega⟩
      split <;> omega
    ·
     rw [if_neg h, if_neg (by omega)]
     have h1 := hs.1
     have h2 := hs.2
     refine ⟨?_, by omega⟩
     split <;> omega
   have hw : wrap64 ((powN s i : Int) * (s : Int)) = ((powN s i * s : Nat) : Int) := by
    have h2 := hN.2
    rw [← Int.natCast_mul]
    exact wrap_id (by omega) (by omega)
   have hw7 : wrap64 ((700 : Int) + 1) = 701 := by rw [show (700 : Int) + 1 = 701 from rfl]; exact wrap_id (by omega) (by omega)
   have h1 := ih (i + 1) (by omega)
   have hw1 : wrap64 ((i : Int) + 1) = ((i + 1 : Nat) : Int) := by rw [wrap_id (by omega) (by omega)]; omega
   refine Ev.step (fun k => ?_) h1
   simp only [impl_times.l0]
   rw [if_pos o1, hw, hw7, ← hN.1, hw1]
 unfold impl_times.f
 have h := hloop m 0 (by omega)
 have e : (powN s 0 : Int) = 1 := by unfold powN; rw [Nat.pow_zero]; rfl
 rw [e] at h
 exact h
theorem power_is {s : Nat} (hs : 1 ≤ s ∧ s ≤ 64) {m : Nat} (hm : m ≤ 1000) : Ev (fun k => spec_l06Power.f k (s : Int) (m : Int)) (powN s m : Int) := by
 have hloop : ∀ (d i : Nat), i + d = m → s ^ i ≤ 700 → Ev (fun k => spec_l06Power.l0 k (s : Int) (m : Int) ((s ^ i : Nat) : Int) (i : Int)) (powN s m : Int) := by
  intro d
  induction d with
  | zero =>
   intro i hi hp
   obtain rfl : i = m := by omega
   refine Ev.step (f := fun _ => some (powN s i : Int)) (fun k => ?_) (Ev.now _)
   simp only [spec_l06Power.l0]
   rw [if_neg (by omega)]
   unfold powN
   rw [if_pos hp]
  | succ d ih =>
   intro i hi hp
   have o1 : (i : Int) < (m : Int) := by omega
   have hps : s ^ (i + 1) = s ^ i * s := Nat.pow_succ ..
   have hle : s ^ i * s ≤ 700 * 64 := Nat.mul_le_mul hp hs.2
   have hw : wrap64 (((s ^ i : Nat) : Int) * (s : Int)) = ((s ^ (i + 1) : Nat) : Int) := by
    rw [← Int.natCast_mul, hps]
    exact wrap_id (by omega) (by omega)
   by_cases h : s ^ (i + 1) ≤ 700
   ·
    have h1 := ih (i + 1) (by omega) h
    have hw1 : wrap64 ((i : Int) + 1) = ((i + 1 : Nat) : Int) := by rw [wrap_id (by omega) (by omega)]; omega
    refine Ev.step (fun k => ?_) h1
    simp only [spec_l06Power.l0]
    rw [if_pos o1, hw, if_neg (by omega), hw1]
   ·
    have hm2 : s ^ (i + 1) ≤ s ^ m := Nat.pow_le_pow_right hs.1 (by omega)
    have e : powN s m = 701 := by unfold powN; rw [if_neg (by omega)]
    refine Ev.step (f := fun _ => some (powN s m : Int)) (fun k => ?_) (Ev.now _)
    simp only [spec_l06Power.l0]
    rw [if_pos o1, hw, if_pos (by omega), e]
    rfl
 unfold spec_l06Power.f
 have h := hloop m 0 (by omega) (by rw [Nat.pow_zero]; omega)
 rw [Nat.pow_zero] at h
 exact h

/-! ### digits -/
theorem wrap_nat {n : Nat} (h : n ≤ 1000000) : wrap64 (n : Int) = (n : Int) := wrap_id (by omega) (by omega)
theorem digits_is {b m n : Nat} (hb : 1 ≤ b ∧ b ≤ 1000) (hm : m ≤ 1000) (hn : n ≤ 1000000) : Ev (fun k => spec_l06Digits.f k (n : Int) (b : Int) (m : Int)) (digs b m n) := by
 have hloop : ∀ (j q : Nat) (T : List Int), j ≤ m → q ≤ 1000000 → Ev (fun k => spec_l06Digits.l0 k (q : Int) (b : Int) (List.replicate j 0 ++ T) ((j : Int) - 1)) (digs b j q ++ T) := by
  intro j
  induction j with
  | zero =>
   intro q T _ _
   refine Ev.step (f := fun _ => some T) (fun k => ?_) (Ev.now _)
   simp only [spec_l06Digits.l0]
   exact if_neg (by omega)
  | succ j ih =>
   intro q T hj hq
   have hqb : q / b ≤ q := Nat.div_le_self _ _
   have h := ih (q / b) ([((q % b : Nat) : Int)] ++ T) (by omega) (by omega)
   have hq2 : wrap64 ((q / b : Nat) : Int) = ((q / b : Nat) : Int) := wrap_nat (Nat.le_trans hqb hq)
   have hj2 : wrap64 ((j : Int) - 1) = (j : Int) - 1 := wrap_id (by omega) (by omega)
   have e1 : (((j + 1 : Nat) : Int) - 1) = (j : Int) := by omega
   rw [e1, digs, List.append_assoc]
   refine Ev.step (fun k => ?_) h
   simp only [spec_l06Digits.l0]
   rw [if_pos (by omega), if_neg (by omega), if_pos (by omega), if_pos (by rw [List.length_append, List.length_replicate]; omega), Int.toNat_natCast,
    show Int.tdiv (q : Int) (b : Int) = ((q / b : Nat) : Int) from rfl, show Int.tmod (q : Int) (b : Int) = ((q % b : Nat) : Int) from rfl, hq2, hj2]
   congr 1
   rw [List.replicate_succ', List.append_assoc, List.set_append_right _ _ (by rw [List.length_replicate]; exact Nat.le_refl _), List.length_replicate, Nat.sub_self]
   rfl
 unfold spec_l06Digits.f
 have h := hloop m n [] (Nat.le_refl _) hn
 simp only [List.append_nil] at h
 have e : wrap64 ((m : Int) - 1) = (m : Int) - 1 := wrap_id (by omega) (by omega)
 simp only [if_pos (show (0 : Int) ≤ (m : Int) by omega), Int.toNat_natCast, if_pos (show m ≤ 35184372088832 by omega), e]
 exact h
theorem digs_in {b : Nat} (hb : 1 ≤ b) : ∀ (m n : Nat), ∀ x ∈ digs b m n, 0 ≤ x ∧ x < (b : Int)
 | 0, _, _, h => by cases h
 | m + 1, n, x, h => by
  rw [digs] at h
  rcases List.mem_append.1 h with h | h
  ·
   exact digs_in hb m _ x h
  ·
   rw [List.mem_singleton] at h
   subst h
   have := Nat.mod_lt n hb
   omega

/-! ### the greatest -/
def mxI (a b : Int) : Int := if a > b then a else b
theorem mx_top (a b : Int) : mxI a b = TMax.top a b := by
 unfold mxI TMax.top
 by_cases h : a > b
 ·
  rw [if_pos h, if_neg (by omega)]
 ·
  rw [if_neg h]
  split <;> omega
theorem fold_top : ∀ (xs : List Int) (a : Int), xs.foldl mxI a = xs.foldl TMax.top a
 | [], _ => rfl
 | x :: xs, a => by rw [List.foldl_cons, List.foldl_cons, mx_top, fold_top xs]
theorem greatest_is (z : List Int) (hz : z.length ≤ 1000) : Ev (fun k => spec_l06Greatest.f k z) (z.foldl mxI 0) := by
 have hloop : ∀ (d i : Nat) (a : Int), i + d = z.length → Ev (fun k => spec_l06Greatest.l0 k z a (i : Int)) ((z.drop i).foldl mxI a) := by
  intro d
  induction d with
  | zero =>
   intro i a hi
   rw [List.drop_eq_nil_of_le (by omega)]
   refine Ev.step (f := fun _ => some a) (fun k => ?_) (Ev.now _)
   simp only [spec_l06Greatest.l0]
   exact if_neg (by omega)
  | succ d ih =>
   intro i a hi
   have hlt : i < z.length := by omega
   have hw1 : wrap64 ((i : Int) + 1) = ((i + 1 : Nat) : Int) := by rw [wrap_id (by omega) (by omega)]; omega
   rw [drop_at 0 hlt, List.foldl_cons]
   refine Ev.step (fun k => ?_) (ih (i + 1) (mxI a (z.getD i 0)) (by omega))
   simp only [spec_l06Greatest.l0]
   rw [if_pos (by omega), if_pos (by omega), hw1, rd_nat]
   have e : spec_l00Max.f a (z.getD i 0) = some (mxI a (z.getD i 0)) := by
    unfold spec_l00Max.f mxI
    split <;> rfl
   rw [e]
   rfl
 unfold spec_l06Greatest.f
 exact hloop z.length 0 0 (by omega)
theorem max_is {z : List Int} (h1 : 1 ≤ z.length) (h2 : z.length ≤ 1000) (h0 : ∀ x ∈ z, 0 ≤ x) : TMax.MaxF z = some (z.foldl mxI 0) := by
 cases z with
 | nil => simp at h1
 | cons x xs =>
  unfold TMax.MaxF
  rw [List.length_cons] at h2
  simp only [if_pos (show xs.length ≤ 1000 by omega)]
  rw [List.foldl_cons, fold_top]
  have := h0 x (List.mem_cons_self ..)
  have e : mxI 0 x = x := by unfold mxI; split <;> omega
  rw [e]

/-! ### what is made -/
def outV (n : Int) (z : List Int) (rs : List Row) : Int × List Int × List Row × Int := if ShapeOk n z rs then (n, z, rs.mergeSort leT, 0) else (0, [], [], 3)
theorem limit_is (n : Int) (z : List Int) (rs : List Row) (hz : z.length ≤ 1048576) (h : FewR rs) : Ev (fun k => impl_tableOrLimit.f k n z rs) (outV n z rs) := by
 unfold impl_tableOrLimit.f outV
 refine Ev.bind (gather_is n z rs hz h) ?_
 obtain ⟨r, hE, hr⟩ := TValid.valid_is n z (rs.mergeSort leT) (fun g hg => Nat.le_trans ((few_sort h).2 g hg) (by decide))
 refine Ev.bind hE ?_
 rw [tabOk_sort] at hr
 by_cases hs : ShapeOk n z rs
 ·
  rw [if_pos hs]
  simp only [if_pos (hr.2 hs)]
  exact Ev.now _
 ·
  rw [if_neg hs]
  simp only [if_neg (fun h2 => hs (hr.1 h2))]
  exact Ev.now _

/-! ### valid families -/
theorem nodup_len : ∀ (N : Nat) (l : List Nat), l.Nodup → (∀ x ∈ l, x < N) → l.length ≤ N
 | 0, [], _, _ => Nat.le_refl _
 | 0, x :: _, _, h => absurd (h x (List.mem_cons_self ..)) (by omega)
 | N + 1, l, hn, h => by
  by_cases hN : N ∈ l
  ·
   have h1 := nodup_len N (l.erase N) (hn.erase N) (fun x hx => by
    have h2 := (hn.mem_erase_iff).1 hx
    have h3 := h x h2.2
    have h4 := h2.1
    omega)
   rw [List.length_erase_of_mem hN] at h1
   omega
  ·
   have h1 := nodup_len N l hn (fun x hx => by
    have h3 := h x hx
    have h4 : x ≠ N := fun e => hN (e ▸ hx)
    omega)
   omega
theorem group_len {n : Nat} (hn : n ≤ 7) {g : List Int} (h : isGroupN n g) : g.length ≤ 7 := by
 have h1 := nodup_len 7 (g.map Int.toNat) (by
  rw [List.nodup_iff_pairwise_ne]
  refine List.Pairwise.map _ ?_ (h.2.imp_of_mem (S := fun a b => (0 ≤ a ∧ a < b)) ?_)
  ·
   rintro a b ⟨h1, h2⟩
   omega
  ·
   intro a b ha hb hab
   exact ⟨(h.1 a ha).1, hab⟩) (by
  intro x hx
  obtain ⟨y, hy, rfl⟩ := List.mem_map.1 hx
  have := h.1 y hy
  omega)
 rwa [List.length_map] at h1
theorem groups_len {n : Int} {gs : List (List Int)} (h : ValidF n gs) : gs.length ≤ 128 := by
 obtain ⟨hn, hg, hp⟩ := h
 have h1 := nodup_len 128 (gs.map bitsN) (by
  rw [List.nodup_iff_pairwise_ne]
  refine List.Pairwise.map _ ?_ hp
  rintro a b ⟨_, h2, _⟩ e
  rw [e, Nat.and_self] at h2
  exact h2 rfl) (by
  intro x hx
  obtain ⟨y, hy, rfl⟩ := List.mem_map.1 hx
  exact bits128 (small_of (n := n.toNat) (by omega) (hg y hy)))
 rwa [List.length_map] at h1
theorem full_of {n : Int} {gs : List (List Int)} (h : ValidF n gs) (h0 : gs.getD 0 [] ≠ []) : ∀ g ∈ gs, g ≠ [] := by
 obtain ⟨hn, hg, hp⟩ := h
 cases gs with
 | nil => intro g h; cases h
 | cons a gs =>
  intro g hg2 e
  subst e
  rcases List.mem_cons.1 hg2 with e | h2
  ·
   exact h0 e.symm
  ·
   have h3 := (List.pairwise_cons.1 hp).1 [] h2
   exact h3.2.1 (Nat.and_zero _)
theorem free_len : ∀ {gs : List (List Int)}, (∀ g ∈ gs, g.length ≤ 7) → freeN gs ≤ 6 * gs.length
 | [], _ => Nat.le_refl _
 | g :: gs, h => by
  have h1 := free_len (gs := gs) (fun x hx => h x (List.mem_cons_of_mem _ hx))
  have h2 := h g (List.mem_cons_self ..)
  show (g.length - 1) + freeN gs ≤ 6 * (gs.length + 1)
  omega
end Go.Proofs.Ytdahdeohmbadhaa.TFam

namespace Go.Proofs.Ytdahdeohmbadhaa.TFam
open Go.RowKit Go.Lib Go.Proofs Go.Proofs.YtdahdeohmbadhaaW.PrintWords Go.Proofs.YtdahdeohmbadhaaW.PrintWords.Kd Go.Proofs.YtdahdeohmbadhaaW.PrintLast Go.Proofs.YtdahdeohmbadhaaW.PrintMore Go.Proofs.Ytdahdeohmbadhaa.G Go.Proofs.Ytdahdeohmbadhaa.Fam Go.Proofs.Ytdahdeohmbadhaa.Loops Go.Proofs.Ytdahdeohmbadhaa.MarkT Go.Proofs.Ytdahdeohmbadhaa.TSort Go.Proofs.Ytdahdeohmbadhaa.TCmp Go.Proofs.Ytdahdeohmbadhaa.TLess Go.Proofs.Ytdahdeohmbadhaa.TShape Go.Proofs.Ytdahdeohmbadhaa.TOk Go.Proofs.Ytdahdeohmbadhaa.TValid Go.Proofs.Ytdahdeohmbadhaa.TMerge Go.Proofs.Ytdahdeohmbadhaa.ExTC Go.Proofs.Ytdahdeohmbadhaa.TMade Go.Proofs.Ytdahdeohmbadhaa.TGather Go.Proofs.Ytdahdeohmbadhaa.TLists Go.Proofs.Ytdahdeohmbadhaa.Valid Go.Proofs.Ytdahdeohmbadhaa.TTail
set_option linter.unusedVariables false
set_option linter.unusedSimpArgs false

/-! ### sizes -/
def sizeP (s : Int) : List Int → List Int → List Int
 | [], z => z
 | h :: g, z => sizeP s g (z.set h.toNat (mn 65 (wrap64 (rd z h * s))))
def sizesP (s : Int) : List (List Int) → List Int → List Int
 | [], z => z
 | g :: gs, z => sizesP s gs (sizeP s g z)
theorem sizeP_len (s : Int) : ∀ (g z : List Int), (sizeP s g z).length = z.length
 | [], _ => rfl
 | h :: g, z => by rw [sizeP, sizeP_len s g, List.length_set]
theorem sizesP_len (s : Int) : ∀ (gs : List (List Int)) (z : List Int), (sizesP s gs z).length = z.length
 | [], _ => rfl
 | g :: gs, z => by rw [sizesP, sizesP_len s gs, sizeP_len]
def Sized (z : List Int) : Prop := ∀ x ∈ z, 0 ≤ x ∧ x ≤ 65
theorem rd_sized {z : List Int} (h : Sized z) (i : Int) : 0 ≤ rd z i ∧ rd z i ≤ 65 := by
 have e : rd z i = z.getD i.toNat 0 := rfl
 rw [e]
 by_cases hi : i.toNat < z.length
 ·
  exact h _ (mem_at hi)
 ·
  rw [List.getD_eq_getElem?_getD, List.getElem?_eq_none (by omega)]
  exact ⟨by decide, by decide⟩
theorem set_sized {s : Int} (hs : 1 ≤ s ∧ s ≤ 64) {z : List Int} (hz : Sized z) (h : Int) : Sized (z.set h.toNat (mn 65 (wrap64 (rd z h * s)))) := by
 intro x hx
 rcases List.mem_or_eq_of_mem_set hx with h1 | rfl
 ·
  exact hz x h1
 ·
  have h2 := rd_sized hz h
  have h3 : 0 ≤ rd z h * s := Int.mul_nonneg h2.1 (by omega)
  have h4 : rd z h * s ≤ 65 * 64 := Int.mul_le_mul h2.2 hs.2 (by omega) (by omega)
  rw [wrap_id (by omega) (by omega)]
  unfold mn
  split <;> omega
theorem sizeP_sized {s : Int} (hs : 1 ≤ s ∧ s ≤ 64) : ∀ (g z : List Int), Sized z → Sized (sizeP s g z)
 | [], _, h => h
 | h :: g, z, hz => sizeP_sized hs g _ (set_sized hs hz h)
theorem sizesP_sized {s : Int} (hs : 1 ≤ s ∧ s ≤ 64) : ∀ (gs : List (List Int)) (z : List Int), Sized z → Sized (sizesP s gs z)
 | [], _, h => h
 | g :: gs, z, hz => sizesP_sized hs gs _ (sizeP_sized hs g z hz)
theorem ones_sized (n : Nat) : Sized (List.replicate n 1) := fun x hx => by rw [(List.mem_replicate.1 hx).2]; omega

/-! ### what is told -/
def endV (s : Int) (n m : Nat) (gs : List (List Int)) (z : List Int) : Int × List Int × List Row × Int := if 700 < powN s.toNat m ∨ 64 < z.foldl mxI 0 then (0, [], [], 3) else outV s z (rowsP s.toNat m n gs)
def famV (n : Int) (gs : List (List Int)) (s : Int) : Int × List Int × List Row × Int :=
 if ValidF n gs then (if (1 ≤ s ∧ s ≤ 64) ∧ gs.length ≠ 0 ∧ (gs.getD 0 []).length ≠ 0 then endV s n.toNat (freeN gs + 1) gs (sizesP s gs (List.replicate n.toNat 1)) else (0, [], [], 2)) else (0, [], [], 1)
theorem allD_len (s sec : Int) : ∀ (gs : List (List Int)) (rest sh : List Int), (allD s sec gs rest sh).length = sh.length
 | [], _, _ => rfl
 | g :: gs, rest, sh => by rw [allD, allD_len s sec gs, (grpD_len s g sec rest sh).1]
theorem rowsP_len (s m n : Nat) (gs : List (List Int)) : (rowsP s m n gs).length = s ^ m := by
 unfold rowsP
 rw [List.length_map, List.length_map, List.length_range]
theorem rowsP_few {s m n : Nat} (gs : List (List Int)) (hp : s ^ m ≤ 700) (hn : n ≤ 7) : FewR (rowsP s m n gs) := by
 refine ⟨by rw [rowsP_len]; omega, ?_⟩
 intro g hg
 unfold rowsP at hg
 obtain ⟨l, _, rfl⟩ := List.mem_map.1 hg
 show (allD _ _ _ _ _).length ≤ _
 rw [allD_len, List.length_replicate]
 omega
theorem pow_small {s m : Nat} (h : ¬ 700 < powN s m) : powN s m = s ^ m ∧ s ^ m ≤ 700 := by
 unfold powN at h ⊢
 by_cases hp : s ^ m ≤ 700
 ·
  exact ⟨if_pos hp, hp⟩
 ·
  rw [if_neg hp] at h
  omega
theorem good_of {N : Nat} {gs : List (List Int)} (hv : ValidF (N : Int) gs) (h1 : (gs.getD 0 []).length ≠ 0) : (1 ≤ N ∧ N ≤ 7) ∧ gs.length ≤ 1000 ∧ (∀ g ∈ gs, 1 ≤ g.length ∧ g.length ≤ 1000 ∧ ∀ h ∈ g, 0 ≤ h ∧ h < (N : Int)) ∧ freeN gs < 1000 := by
 have hn := hv.1
 have hl := groups_len hv
 have hf := full_of hv (fun e => h1 (by rw [e]; rfl))
 have hg := hv.2.1
 rw [Int.toNat_natCast] at hg
 have h7 : ∀ g ∈ gs, g.length ≤ 7 := fun g h => group_len (n := N) (by omega) (hg g h)
 have h8 := free_len h7
 exact ⟨by omega, by omega, fun g h => ⟨List.length_pos_iff.2 (hf g h), by have := h7 g h; omega, (hg g h).1⟩, by omega⟩

/-! ### the program's -/
theorem i1_is {s : Int} {n : Nat} {g : List Int} (hgl : g.length ≤ 1000) (hg : ∀ h ∈ g, 0 ≤ h ∧ h < (n : Int)) (gs : List (List Int)) (free j N : Int) (r : Int × List Int × List Row × Int) :
  ∀ (d i : Nat) (z : List Int), i + d = g.length → z.length = n →
   Ev (fun k => impl_FamilyTable.l0 k s free (sizeP s (g.drop i) z) gs (gs.length : Int) (wrap64 (j + 1)) N gs) r →
   Ev (fun k => impl_FamilyTable.l1 k s free z gs (gs.length : Int) j g (g.length : Int) (i : Int) N gs) r := by
 intro d
 induction d with
 | zero =>
  intro i z hi hz h
  rw [List.drop_eq_nil_of_le (by omega)] at h
  refine Ev.step (fun k => ?_) h
  simp only [impl_FamilyTable.l1]
  rw [if_neg (by omega)]
  rfl
 | succ d ih =>
  intro i z hi hz h
  have hlt : i < g.length := by omega
  have hgi := hg _ (mem_at (d := 0) hlt)
  have hw : wrap64 ((i : Int) + 1) = ((i + 1 : Nat) : Int) := wrap_nat1 i (by omega)
  rw [drop_at 0 hlt] at h
  have h2 := ih (i + 1) (z.set (g.getD i 0).toNat (mn 65 (wrap64 (rd z (g.getD i 0) * s)))) (by omega) (by rw [List.length_set]; exact hz) h
  refine Ev.step (fun k => ?_) h2
  simp only [impl_FamilyTable.l1]
  rw [if_pos (by omega), if_pos (by omega), if_pos (by omega), rd_nat, if_pos hgi.1, if_pos (by omega), hw]
theorem i0_is {s : Int} {n : Nat} {gs : List (List Int)} (hgs : gs.length ≤ 1000) (hg : ∀ g ∈ gs, 1 ≤ g.length ∧ g.length ≤ 1000 ∧ ∀ h ∈ g, 0 ≤ h ∧ h < (n : Int)) (N : Int) (r : Int × List Int × List Row × Int) :
  ∀ (d j f : Nat) (z : List Int), j + d = gs.length → z.length = n → f + freeN (gs.drop j) ≤ 100000 →
   Ev (fun k => impl_FamilyTable.l0 k s ((f + freeN (gs.drop j) + 1 : Nat) : Int) (sizesP s (gs.drop j) z) gs (gs.length : Int) (gs.length : Int) N gs) r →
   Ev (fun k => impl_FamilyTable.l0 k s ((f + 1 : Nat) : Int) z gs (gs.length : Int) (j : Int) N gs) r := by
 intro d
 induction d with
 | zero =>
  intro j f z hj hz hf h
  obtain rfl : j = gs.length := by omega
  rw [List.drop_length] at h
  exact h
 | succ d ih =>
  intro j f z hj hz hf h
  have hlt : j < gs.length := by omega
  have hgj := hg _ (mem_at (d := []) hlt)
  have hw : wrap64 ((j : Int) + 1) = ((j + 1 : Nat) : Int) := wrap_nat1 j (by omega)
  rw [drop_at [] hlt] at h hf
  have hf' : f + (((gs.getD j []).length - 1) + freeN (gs.drop (j + 1))) ≤ 100000 := hf
  have h' : Ev (fun k => impl_FamilyTable.l0 k s ((f + (((gs.getD j []).length - 1) + freeN (gs.drop (j + 1))) + 1 : Nat) : Int) (sizesP s (gs.drop (j + 1)) (sizeP s (gs.getD j []) z)) gs (gs.length : Int) (gs.length : Int) N gs) r := h
  rw [show f + (((gs.getD j []).length - 1) + freeN (gs.drop (j + 1))) = f + ((gs.getD j []).length - 1) + freeN (gs.drop (j + 1)) by omega] at h'
  have h3 := ih (j + 1) (f + ((gs.getD j []).length - 1)) (sizeP s (gs.getD j []) z) (by omega) ((sizeP_len ..).trans hz) (by omega) h'
  have hfw : wrap64 (((f + 1 : Nat) : Int) + wrap64 (((gs.getD j []).length : Int) - 1)) = ((f + ((gs.getD j []).length - 1) + 1 : Nat) : Int) := by
   have h5 := hgj.1
   have h6 := hgj.2.1
   rw [wrap_id (i := ((gs.getD j []).length : Int) - 1) (by omega) (by omega), wrap_id (by omega) (by omega)]
   omega
  have h4 := i1_is (s := s) hgj.2.1 hgj.2.2 gs ((f + ((gs.getD j []).length - 1) + 1 : Nat) : Int) (j : Int) N r (gs.getD j []).length 0 z (by omega) hz (by rw [List.drop_zero, hw]; exact h3)
  refine Ev.step (fun k => ?_) h4
  simp only [impl_FamilyTable.l0]
  rw [if_pos (by omega), if_pos (by omega), if_pos (by omega), rdg, hfw]
  rfl
theorem iend_is {S n : Nat} (hs : 1 ≤ S ∧ S ≤ 64) (hn : 1 ≤ n ∧ n ≤ 7) {gs : List (List Int)} (hgs : gs.length ≤ 1000) (hg : ∀ g ∈ gs, 1 ≤ g.length ∧ g.length ≤ 1000 ∧ ∀ h ∈ g, 0 ≤ h ∧ h < (n : Int)) (hm : freeN gs < 1000) {z : List Int} (hz : z.length = n) (hzs : Sized z) :
  Ev (fun k => impl_FamilyTable.l0 k (S : Int) ((freeN gs + 1 : Nat) : Int) z gs (gs.length : Int) (gs.length : Int) (n : Int) gs) (endV (S : Int) n (freeN gs + 1) gs z) := by
 have hj : Ev (fun k => impl_FamilyTable.j3 k (S : Int) ((freeN gs + 1 : Nat) : Int) z true (n : Int) gs) (0, [], [], 3) := Ev.step (f := fun _ => some (0, [], [], 3)) (fun k => by simp only [impl_FamilyTable.j3, if_true]) (Ev.now _)
 unfold endV
 rw [Int.toNat_natCast]
 refine Ev.step (f := fun k => (impl_times.f k (S : Int) ((freeN gs + 1 : Nat) : Int) 700).bind fun t174 => (if t174 > 700 then (impl_FamilyTable.j3 k (S : Int) ((freeN gs + 1 : Nat) : Int) z true (n : Int) gs) else ((TMax.MaxF z).bind fun t175 => (impl_FamilyTable.j3 k (S : Int) ((freeN gs + 1 : Nat) : Int) z (decide (t175 > 64)) (n : Int) gs)))) (fun k => ?_) (Ev.bind (times_is hs (by omega)) ?_)
 ·
  simp only [impl_FamilyTable.l0]
  exact if_neg (by omega)
 ·
  by_cases hp : 700 < powN S (freeN gs + 1)
  ·
   rw [if_pos (Or.inl hp)]
   simp only [if_pos (show (powN S (freeN gs + 1) : Int) > 700 by omega)]
   exact hj
  ·
   obtain ⟨_, hp'⟩ := pow_small hp
   simp only [if_neg (show ¬ (powN S (freeN gs + 1) : Int) > 700 by omega), max_is (show 1 ≤ z.length by omega) (by omega) (fun x hx => (hzs x hx).1), Option.bind_some]
   by_cases hx : 64 < z.foldl mxI 0
   ·
    rw [if_pos (Or.inr hx)]
    simp only [decide_eq_true (show z.foldl mxI 0 > 64 from hx)]
    exact hj
   ·
    rw [if_neg (fun h => h.elim hp hx)]
    simp only [decide_eq_false (show ¬ z.foldl mxI 0 > 64 from hx)]
    have hfit : FitF ((freeN gs + 1 : Nat) : Int) (S : Int) (n : Int) gs := ⟨by omega, by omega, hgs, fun g h => ⟨(hg g h).2.1, (hg g h).2.2⟩, rfl, hm, by rw [Int.toNat_natCast]; exact hp'⟩
    have hR : rowsF ((freeN gs + 1 : Nat) : Int) (S : Int) (n : Int) gs = some (rowsP S (freeN gs + 1) n gs) := by
     unfold rowsF
     rw [if_pos hfit]
     simp only [Int.toNat_natCast]
    refine Ev.step (f := fun k => (impl_tableOrLimit.f k (S : Int) z (rowsP S (freeN gs + 1) n gs)).bind fun bt182 => some (bt182.1, bt182.2.1, bt182.2.2.1, bt182.2.2.2)) (fun k => ?_) (Ev.bind (limit_is _ _ _ (by omega) (rowsP_few gs hp' hn.2)) (Ev.now _))
    simp only [impl_FamilyTable.j3, Bool.false_eq_true, if_false, hR, Option.bind_some]
theorem impl_is (n s : Int) (gs : List (List Int)) (hl : gs.length ≤ 9223372036854775807) (hgl : ∀ g ∈ gs, g.length ≤ 9223372036854775807) : Ev (fun k => impl_FamilyTable.f k n gs s) (famV n gs s) := by
 have hj : Ev (fun k => impl_FamilyTable.j0 k s true n gs) (0, [], [], 2) := Ev.step (f := fun _ => some (0, [], [], 2)) (fun k => by simp only [impl_FamilyTable.j0, if_true]) (Ev.now _)
 have hr0 : rd_L1 gs 0 = gs.getD 0 [] := rdg gs 0
 unfold impl_FamilyTable.f famV
 refine Ev.bind (Valid.valid_is n gs hl hgl) ?_
 by_cases hv : ValidF n gs
 ·
  rw [if_pos hv]
  simp only [decide_eq_true hv, if_true, TValid.within_is, Option.bind_some, hr0]
  by_cases hs : 1 ≤ s ∧ s ≤ 64
  ·
   simp only [decide_eq_true hs, if_true]
   by_cases h0 : gs.length = 0
   ·
    rw [if_neg (fun h => h.2.1 h0)]
    simp only [if_pos (show (gs.length : Int) = 0 by omega)]
    exact hj
   ·
    simp only [if_neg (show ¬ (gs.length : Int) = 0 by omega), if_pos (show (0 : Int) < (gs.length : Int) by omega)]
    by_cases h1 : (gs.getD 0 []).length = 0
    ·
     rw [if_neg (fun h => h.2.2 h1)]
     have e : (((gs.getD 0 []).length : Int) == 0) = true := by rw [beq_iff_eq]; omega
     simp only [e]
     exact hj
    ·
     rw [if_pos ⟨hs, h0, h1⟩]
     have e : (((gs.getD 0 []).length : Int) == 0) = false := by rw [beq_eq_false_iff_ne]; omega
     simp only [e]
     obtain ⟨N, rfl⟩ : ∃ N : Nat, n = (N : Int) := ⟨n.toNat, by have := hv.1; omega⟩
     obtain ⟨S, rfl⟩ : ∃ S : Nat, s = (S : Int) := ⟨s.toNat, by omega⟩
     obtain ⟨hn, hgs, hg, hm⟩ := good_of hv h1
     rw [Int.toNat_natCast]
     have hRep : TRep.RepF [1] (N : Int) = some (List.replicate N 1) := by
      unfold TRep.RepF
      simp only [if_pos (show 1 ≤ (N : Int) ∧ (N : Int) ≤ 7 by omega), Int.toNat_natCast]
     have h2 := i0_is (s := (S : Int)) hgs hg (N : Int) _ gs.length 0 0 (List.replicate N 1) (by omega) List.length_replicate (by rw [List.drop_zero]; omega) (by
      rw [List.drop_zero, Nat.zero_add]
      exact iend_is (by omega) hn hgs hg hm ((sizesP_len ..).trans List.length_replicate) (sizesP_sized hs gs _ (ones_sized N)))
     refine Ev.step (fun k => ?_) h2
     simp only [impl_FamilyTable.j0, Bool.false_eq_true, if_false, hRep, Option.bind_some]
     rfl
  ·
   rw [if_neg (fun h => hs h.1)]
   simp only [decide_eq_false hs, Bool.false_eq_true, if_false]
   exact hj
 ·
  rw [if_neg hv]
  simp only [decide_eq_false hv, Bool.false_eq_true, if_false]
  exact Ev.now _

/-! ### the reference's -/
theorem min_is (x : Int) : spec_l00Min.f x 65 = some (mn 65 x) := by
 unfold spec_l00Min.f mn
 by_cases h : x < 65
 ·
  rw [if_pos h, if_pos h]
 ·
  rw [if_neg h, if_neg h]
theorem s2_is {s : Int} {n : Nat} {gs : List (List Int)} (j : Nat) (hj : j < gs.length) (hgl : (gs.getD j []).length ≤ 1000) (hg : ∀ h ∈ gs.getD j [], 0 ≤ h ∧ h < (n : Int)) (free : Int) (b : Bool) (N : Int) (r : Int × List Int × List Row × Int) :
  ∀ (d i : Nat) (z : List Int), i + d = (gs.getD j []).length → z.length = n →
   Ev (fun k => spec_FamilyTable.l1 k s free (sizeP s ((gs.getD j []).drop i) z) b (wrap64 ((j : Int) + 1)) N gs) r →
   Ev (fun k => spec_FamilyTable.l2 k s free z b (j : Int) (i : Int) N gs) r := by
 intro d
 induction d with
 | zero =>
  intro i z hi hz h
  rw [List.drop_eq_nil_of_le (by omega)] at h
  refine Ev.step (fun k => ?_) h
  simp only [spec_FamilyTable.l2]
  rw [if_pos (by omega), if_pos (by omega), rdg, if_neg (by omega)]
  rfl
 | succ d ih =>
  intro i z hi hz h
  have hlt : i < (gs.getD j []).length := by omega
  have hgi := hg _ (mem_at (d := 0) hlt)
  have hw : wrap64 ((i : Int) + 1) = ((i + 1 : Nat) : Int) := wrap_nat1 i (by omega)
  rw [drop_at 0 hlt] at h
  have h2 := ih (i + 1) (z.set ((gs.getD j []).getD i 0).toNat (mn 65 (wrap64 (rd z ((gs.getD j []).getD i 0) * s)))) (by omega) (by rw [List.length_set]; exact hz) h
  refine Ev.step (fun k => ?_) h2
  simp only [spec_FamilyTable.l2]
  rw [if_pos (by omega), if_pos (by omega), rdg, if_pos (by omega), if_pos (by omega), rd_nat, if_pos hgi.1, if_pos (by omega), min_is, hw]
  rfl
theorem s1_is {s : Int} {n : Nat} {gs : List (List Int)} (hgs : gs.length ≤ 1000) (hg : ∀ g ∈ gs, 1 ≤ g.length ∧ g.length ≤ 1000 ∧ ∀ h ∈ g, 0 ≤ h ∧ h < (n : Int)) (N : Int) (r : Int × List Int × List Row × Int) :
  ∀ (d j f : Nat) (z : List Int), j + d = gs.length → z.length = n → f + freeN (gs.drop j) ≤ 100000 →
   Ev (fun k => spec_FamilyTable.l1 k s ((f + freeN (gs.drop j) : Nat) : Int) (sizesP s (gs.drop j) z) true (gs.length : Int) N gs) r →
   Ev (fun k => spec_FamilyTable.l1 k s (f : Int) z true (j : Int) N gs) r := by
 intro d
 induction d with
 | zero =>
  intro j f z hj hz hf h
  obtain rfl : j = gs.length := by omega
  rw [List.drop_length] at h
  exact h
 | succ d ih =>
  intro j f z hj hz hf h
  have hlt : j < gs.length := by omega
  have hgj := hg _ (mem_at (d := []) hlt)
  have hw : wrap64 ((j : Int) + 1) = ((j + 1 : Nat) : Int) := wrap_nat1 j (by omega)
  rw [drop_at [] hlt] at h hf
  have hf' : f + (((gs.getD j []).length - 1) + freeN (gs.drop (j + 1))) ≤ 100000 := hf
  have h' : Ev (fun k => spec_FamilyTable.l1 k s ((f + (((gs.getD j []).length - 1) + freeN (gs.drop (j + 1))) : Nat) : Int) (sizesP s (gs.drop (j + 1)) (sizeP s (gs.getD j []) z)) true (gs.length : Int) N gs) r := h
  rw [show f + (((gs.getD j []).length - 1) + freeN (gs.drop (j + 1))) = f + ((gs.getD j []).length - 1) + freeN (gs.drop (j + 1)) by omega] at h'
  have h3 := ih (j + 1) (f + ((gs.getD j []).length - 1)) (sizeP s (gs.getD j []) z) (by omega) ((sizeP_len ..).trans hz) (by omega) h'
  have hfw : wrap64 ((f : Int) + wrap64 (((gs.getD j []).length : Int) - 1)) = ((f + ((gs.getD j []).length - 1) : Nat) : Int) := by
   have h5 := hgj.1
   have h6 := hgj.2.1
   rw [wrap_id (i := ((gs.getD j []).length : Int) - 1) (by omega) (by omega), wrap_id (by omega) (by omega)]
   omega
  have hb : decide (((gs.getD j []).length : Int) > 0) = true := decide_eq_true (by have h5 := hgj.1; omega)
  have h4 := s2_is (s := s) j hlt hgj.2.1 hgj.2.2 ((f + ((gs.getD j []).length - 1) : Nat) : Int) true N r (gs.getD j []).length 0 z (by omega) hz (by rw [List.drop_zero, hw]; exact h3)
  refine Ev.step (f := fun k => spec_FamilyTable.j3 k s (f : Int) z true (j : Int) true N gs) (fun k => ?_) (Ev.step (fun k => ?_) h4)
  ·
   simp only [spec_FamilyTable.l1]
   rw [if_pos (by omega)]
  ·
   simp only [spec_FamilyTable.j3, if_true]
   rw [if_pos (by omega), if_pos (by omega), rdg, hfw, hb]
   rfl
theorem s_no (s f : Int) (z : List Int) (j N : Int) (gs : List (List Int)) : Ev (fun k => spec_FamilyTable.l1 k s f z false j N gs) (0, [], [], 2) :=
 Ev.step (f := fun k => spec_FamilyTable.j3 k s f z false j false N gs) (fun k => by simp only [spec_FamilyTable.l1]; split <;> rfl) (Ev.step (f := fun _ => some (0, [], [], 2)) (fun k => by simp only [spec_FamilyTable.j3, Bool.false_eq_true, if_false]) (Ev.now _))
def rowsD (S n m : Nat) (gs : List (List Int)) (i : Nat) : List Row := ((List.range i).map (digs S m)).map (rowD (S : Int) n gs)
theorem rowsD_snoc (S n m : Nat) (gs : List (List Int)) (i : Nat) : rowsD S n m gs i ++ [rowD (S : Int) n gs (digs S m i)] = rowsD S n m gs (i + 1) := by
 unfold rowsD
 rw [List.range_succ, List.map_append, List.map_append]
 rfl
theorem rowsD_len (S n m : Nat) (gs : List (List Int)) (i : Nat) : (rowsD S n m gs i).length = i := by
 unfold rowsD
 rw [List.length_map, List.length_map, List.length_range]
theorem s3_is {S n : Nat} (hs : 1 ≤ S ∧ S ≤ 64) (hn : 1 ≤ n ∧ n ≤ 7) {gs : List (List Int)} (hgs : gs.length ≤ 1000) (hg : ∀ g ∈ gs, 1 ≤ g.length ∧ g.length ≤ 1000 ∧ ∀ h ∈ g, 0 ≤ h ∧ h < (n : Int)) {m : Nat} (hm : freeN gs < 1000) (hme : m = freeN gs + 1) (M : Nat) (hp : M ≤ 700) (z : List Int) :
  ∀ (d i : Nat), i + d = M → Ev (fun k => spec_FamilyTable.l3 k (S : Int) (freeN gs : Int) z (M : Int) (rowsD S n m gs i) (i : Int) (n : Int) gs) (outV (S : Int) z (rowsD S n m gs M)) := by
 intro d
 induction d with
 | zero =>
  intro i hi
  obtain rfl : i = M := by omega
  refine Ev.step (f := fun _ => some (outV (S : Int) z (rowsD S n m gs i))) (fun k => ?_) (Ev.now _)
  simp only [spec_FamilyTable.l3]
  refine (if_neg (by omega)).trans ?_
  unfold tailG outV
  exact if_pos (by rw [rowsD_len]; omega)
 | succ d ih =>
  intro i hi
  have h3 := ih (i + 1) (by omega)
  have hw : wrap64 ((i : Int) + 1) = ((i + 1 : Nat) : Int) := wrap_nat1 i (by omega)
  have hwm : wrap64 ((freeN gs : Int) + 1) = (m : Int) := by rw [wrap_id (by omega) (by omega)]; omega
  have hdl : (digs S m i).length = m := digs_len S m i
  have hin := digs_in (b := S) (by omega) m i
  have h0 : rd (digs S m i) 0 ∈ digs S m i := by
   rw [show rd (digs S m i) 0 = (digs S m i).getD 0 0 from rfl]
   exact mem_at (by omega)
  have hdiv : divideF (n : Int) gs (S : Int) (rd (digs S m i) 0) ((digs S m i).drop 1) = some (allD (S : Int) (rd (digs S m i) 0) gs ((digs S m i).drop 1) (List.replicate n 0)) := by
   unfold divideF
   rw [if_pos ⟨by omega, by omega, hgs, hg, hin _ h0, fun x hx => hin x (List.mem_of_mem_drop hx), by rw [List.length_drop]; omega, by rw [List.length_drop]; omega⟩, Int.toNat_natCast]
  have hlen : (rowsD S n m gs i).length < 4398046511104 := by rw [rowsD_len]; omega
  rw [← rowsD_snoc] at h3
  refine Ev.step (f := fun k => (spec_l06Digits.f k (i : Int) (S : Int) (m : Int)).bind fun t => (if 0 < (t.length : Int) then (if 1 ≤ (t.length : Int) then ((divideF (n : Int) gs (S : Int) (rd t 0) (t.drop 1)).bind fun t188 => (if (rowsD S n m gs i).length < 4398046511104 then (spec_FamilyTable.l3 k (S : Int) (freeN gs : Int) z (M : Int) (rowsD S n m gs i ++ [(⟨rd t 0, t188⟩ : Row)]) ((i + 1 : Nat) : Int) (n : Int) gs) else none)) else none) else none)) (fun k => ?_) (Ev.bind (digits_is (by omega) (by omega) (by omega)) ?_)
  ·
   simp only [spec_FamilyTable.l3]
   rw [if_pos (by omega), hwm, hw]
  ·
   simp only [if_pos (show 0 < ((digs S m i).length : Int) by omega), if_pos (show 1 ≤ ((digs S m i).length : Int) by omega), hdiv, Option.bind_some, if_pos hlen]
   exact h3
theorem send_is {S n : Nat} (hs : 1 ≤ S ∧ S ≤ 64) (hn : 1 ≤ n ∧ n ≤ 7) {gs : List (List Int)} (hgs : gs.length ≤ 1000) (hg : ∀ g ∈ gs, 1 ≤ g.length ∧ g.length ≤ 1000 ∧ ∀ h ∈ g, 0 ≤ h ∧ h < (n : Int)) (hm : freeN gs < 1000) {z : List Int} (hz : z.length = n) :
  Ev (fun k => spec_FamilyTable.l1 k (S : Int) (freeN gs : Int) z true (gs.length : Int) (n : Int) gs) (endV (S : Int) n (freeN gs + 1) gs z) := by
 have hj : ∀ t, Ev (fun k => spec_FamilyTable.j5 k (S : Int) (freeN gs : Int) z t true (n : Int) gs) (0, [], [], 3) := fun t => Ev.step (f := fun _ => some (0, [], [], 3)) (fun k => by simp only [spec_FamilyTable.j5, if_true]) (Ev.now _)
 have hwm : wrap64 ((freeN gs : Int) + 1) = ((freeN gs + 1 : Nat) : Int) := wrap_nat1 _ (by omega)
 unfold endV
 rw [Int.toNat_natCast]
 refine Ev.step (f := fun k => spec_FamilyTable.j3 k (S : Int) (freeN gs : Int) z true (gs.length : Int) false (n : Int) gs) (fun k => ?_) (Ev.step (f := fun k => (spec_l06Power.f k (S : Int) ((freeN gs + 1 : Nat) : Int)).bind fun t174 => (if t174 > 700 then (spec_FamilyTable.j5 k (S : Int) (freeN gs : Int) z t174 true (n : Int) gs) else ((spec_l06Greatest.f k z).bind fun t175 => (spec_FamilyTable.j5 k (S : Int) (freeN gs : Int) z t174 (decide (t175 > 64)) (n : Int) gs)))) (fun k => ?_) (Ev.bind (power_is hs (by omega)) ?_))
 ·
  simp only [spec_FamilyTable.l1]
  exact if_neg (by omega)
 ·
  simp only [spec_FamilyTable.j3, Bool.false_eq_true, if_false, if_true, hwm]
 ·
  by_cases hp : 700 < powN S (freeN gs + 1)
  ·
   rw [if_pos (Or.inl hp)]
   simp only [if_pos (show (powN S (freeN gs + 1) : Int) > 700 by omega)]
   exact hj _
  ·
   obtain ⟨hpe, hp'⟩ := pow_small hp
   simp only [if_neg (show ¬ (powN S (freeN gs + 1) : Int) > 700 by omega)]
   refine Ev.bind (greatest_is z (by omega)) ?_
   by_cases hx : 64 < z.foldl mxI 0
   ·
    rw [if_pos (Or.inr hx)]
    simp only [decide_eq_true (show z.foldl mxI 0 > 64 from hx)]
    exact hj _
   ·
    rw [if_neg (fun h => h.elim hp hx)]
    simp only [decide_eq_false (show ¬ z.foldl mxI 0 > 64 from hx)]
    have h3 := s3_is hs hn hgs hg hm rfl (S ^ (freeN gs + 1)) hp' z (S ^ (freeN gs + 1)) 0 (Nat.zero_add _)
    refine Ev.step (fun k => ?_) h3
    simp only [spec_FamilyTable.j5, Bool.false_eq_true, if_false, hpe]
    rfl
theorem s0_is (s : Int) (gs : List (List Int)) {n : Nat} (hn : n ≤ 7) (r : Int × List Int × List Row × Int) (h : Ev (fun k => spec_FamilyTable.l0 k s 0 (List.replicate n 1) (n : Int) (n : Int) gs) r) :
  ∀ (d i : Nat), i + d = n → Ev (fun k => spec_FamilyTable.l0 k s 0 (List.replicate i 1) (i : Int) (n : Int) gs) r := by
 intro d
 induction d with
 | zero =>
  intro i hi
  obtain rfl : i = n := by omega
  exact h
 | succ d ih =>
  intro i hi
  have h3 := ih (i + 1) (by omega)
  have hw : wrap64 ((i : Int) + 1) = ((i + 1 : Nat) : Int) := wrap_nat1 i (by omega)
  rw [List.replicate_succ'] at h3
  refine Ev.step (fun k => ?_) h3
  simp only [spec_FamilyTable.l0]
  rw [if_pos (by omega), if_pos (by rw [List.length_replicate]; omega), hw]
theorem spec_is (n s : Int) (gs : List (List Int)) : Ev (fun k => spec_FamilyTable.f k n gs s) (famV n gs s) := by
 have hr0 : rd_L1 gs 0 = gs.getD 0 [] := rdg gs 0
 unfold spec_FamilyTable.f famV TFamV.validS
 simp only [Option.bind_some]
 by_cases hv : ValidF n gs
 ·
  rw [if_pos hv]
  simp only [decide_eq_true hv, if_true]
  have hn := hv.1
  obtain ⟨N, rfl⟩ : ∃ N : Nat, n = (N : Int) := ⟨n.toNat, by omega⟩
  refine s0_is s gs (n := N) (by omega) _ ?_ N 0 (by omega)
  rw [Int.toNat_natCast]
  refine Ev.step (f := fun k => if (decide (1 ≤ s ∧ s ≤ 64)) = true then spec_FamilyTable.j1 k s 0 (List.replicate N 1) (decide ((gs.length : Int) > 0)) (N : Int) gs else spec_FamilyTable.j1 k s 0 (List.replicate N 1) false (N : Int) gs) (fun k => ?_) ?_
  ·
   simp only [spec_FamilyTable.l0]
   refine (if_neg (by omega)).trans ?_
   rw [TShape.in_is, Option.bind_some]
  ·
   have hno : Ev (fun k => spec_FamilyTable.j1 k s 0 (List.replicate N 1) false (N : Int) gs) (0, [], [], 2) := Ev.step (fun k => by simp only [spec_FamilyTable.j1]) (s_no s 0 (List.replicate N 1) 0 (N : Int) gs)
   by_cases hs : 1 ≤ s ∧ s ≤ 64
   ·
    simp only [decide_eq_true hs, if_true]
    by_cases h0 : gs.length = 0
    ·
     rw [if_neg (fun h => h.2.1 h0)]
     simp only [decide_eq_false (show ¬ (gs.length : Int) > 0 by omega)]
     exact hno
    ·
     simp only [decide_eq_true (show (gs.length : Int) > 0 by omega)]
     by_cases h1 : (gs.getD 0 []).length = 0
     ·
      rw [if_neg (fun h => h.2.2 h1)]
      have hb : decide (((gs.getD 0 []).length : Int) > 0) = false := decide_eq_false (by omega)
      refine Ev.step (f := fun k => spec_FamilyTable.l1 k s 0 (List.replicate N 1) true 0 (N : Int) gs) (fun k => by simp only [spec_FamilyTable.j1]) (Ev.step (f := fun k => spec_FamilyTable.j3 k s 0 (List.replicate N 1) true 0 true (N : Int) gs) (fun k => ?_) (Ev.step (f := fun k => spec_FamilyTable.l2 k s (wrap64 (0 + wrap64 (((gs.getD 0 []).length : Int) - 1))) (List.replicate N 1) false 0 0 (N : Int) gs) (fun k => ?_) (Ev.step (fun k => ?_) (s_no s (wrap64 (0 + wrap64 (((gs.getD 0 []).length : Int) - 1))) (List.replicate N 1) (wrap64 (0 + 1)) (N : Int) gs))))
      ·
       simp only [spec_FamilyTable.l1]
       rw [if_pos (by omega)]
      ·
       simp only [spec_FamilyTable.j3, if_true]
       rw [if_pos (by omega), if_pos (by omega), hr0, hb]
      ·
       simp only [spec_FamilyTable.l2]
       rw [if_pos (by omega), if_pos (by omega), hr0, if_neg (by omega)]
     ·
      rw [if_pos ⟨hs, h0, h1⟩]
      obtain ⟨S, rfl⟩ : ∃ S : Nat, s = (S : Int) := ⟨s.toNat, by omega⟩
      obtain ⟨hn, hgs, hg, hm⟩ := good_of hv h1
      have h2 := s1_is (s := (S : Int)) hgs hg (N : Int) _ gs.length 0 0 (List.replicate N 1) (by omega) List.length_replicate (by rw [List.drop_zero]; omega) (by
       rw [List.drop_zero, Nat.zero_add]
       exact send_is (by omega) hn hgs hg hm ((sizesP_len ..).trans List.length_replicate))
      refine Ev.step (fun k => ?_) h2
      simp only [spec_FamilyTable.j1]
      rfl
   ·
    rw [if_neg (fun h => hs h.1)]
    simp only [decide_eq_false hs, Bool.false_eq_true, if_false]
    exact hno
 ·
  rw [if_neg hv]
  simp only [decide_eq_false hv, Bool.false_eq_true, if_false]
  exact Ev.now _

/-! ### the contracts -/
theorem groups_lens {w : World} {A : Option Addr} {n : Nat} {gs : List (List Int)} (h : Kd.C (Kd.slice 2 (Kd.int .i64)) w A n gs) : gs.length ≤ 9223372036854775807 ∧ ∀ g ∈ gs, g.length ≤ 9223372036854775807 := by
 refine ⟨by rw [h.1]; exact h.2.1, fun g hg => ?_⟩
 obtain ⟨i, hi, rfl⟩ := List.mem_iff_getElem.1 hg
 have hn := h.1
 obtain ⟨ad, e, hc⟩ := h.2.2 (by omega)
 obtain ⟨c, hl, ⟨A', c', _, _, hC⟩, _⟩ := hc i gs[i] (List.getElem?_eq_getElem hi)
 exact hC.2.1
theorem implFam_calls (n : Int) (A : Option Addr) (c : Nat) (gs : List (List Int)) (s : Int) (w : World) (hC : Kd.C (Kd.slice 2 (Kd.int .i64)) w A gs.length gs) (hc : gs.length ≤ c) :
  Calls Try.prog 46 #[.agg #[.int .i64 n, .slice A gs.length c], .int .i64 s] w (TabRes w (famV n gs s).1 (famV n gs s).2.1 (famV n gs s).2.2.1 (famV n gs s).2.2.2) := by
 obtain ⟨k, hk⟩ := (impl_is n s gs (groups_lens hC).1 (groups_lens hC).2).rounds
 exact impl_FamilyTable.calls k n A c gs s _ _ _ _ w hC hc hk
theorem specFam_calls (n : Int) (A : Option Addr) (c : Nat) (gs : List (List Int)) (s : Int) (w : World) (hC : Kd.C (Kd.slice 2 (Kd.int .i64)) w A gs.length gs) (hc : gs.length ≤ c) :
  Calls Try.prog 44 #[.agg #[.int .i64 n, .slice A gs.length c], .int .i64 s] w (TabRes w (famV n gs s).1 (famV n gs s).2.1 (famV n gs s).2.2.1 (famV n gs s).2.2.2) := by
 obtain ⟨k, hk⟩ := (spec_is n s gs).rounds
 exact spec_FamilyTable.calls k n A c gs s _ _ _ _ w hC hc hk
theorem out_small (n : Int) (z : List Int) (rs : List Row) : 1 + ((outV n z rs).2.1.length : Int) + (totT (outV n z rs).2.2.1 : Int) < 9223372036854775807 := by
 unfold outV
 by_cases hs : ShapeOk n z rs
 ·
  rw [if_pos hs]
  have := shape_tot hs
  show 1 + (z.length : Int) + (totT (rs.mergeSort leT) : Int) < _
  omega
 ·
  rw [if_neg hs]
  simp [totT]
theorem fam_small (n : Int) (gs : List (List Int)) (s : Int) : 1 + ((famV n gs s).2.1.length : Int) + (totT (famV n gs s).2.2.1 : Int) < 9223372036854775807 := by
 unfold famV
 split
 ·
  split
  ·
   unfold endV
   split
   ·
    simp [totT]
   ·
    exact out_small _ _ _
  ·
   simp [totT]
 ·
  simp [totT]
end Go.Proofs.Ytdahdeohmbadhaa.TFam

namespace Go.Proofs.Ytdahdeohmbadhaa.SaidFamilyTable
open Go.RowKit Go.Lib Go.Proofs Go.Proofs.YtdahdeohmbadhaaW.PrintWords Go.Proofs.YtdahdeohmbadhaaW.PrintWords.Kd Go.Proofs.YtdahdeohmbadhaaW.PrintLast Go.Proofs.YtdahdeohmbadhaaW.PrintMore Go.Proofs.Ytdahdeohmbadhaa.G Go.Proofs.Ytdahdeohmbadhaa.Mark Go.Proofs.Ytdahdeohmbadhaa.MarkT Go.Proofs.Ytdahdeohmbadhaa.ExF Go.Proofs.Ytdahdeohmbadhaa.ExT Go.Proofs.Ytdahdeohmbadhaa.ExTC Go.Proofs.Ytdahdeohmbadhaa.TFam
theorem exact (n0 : Int) (A0 : Option Addr) (c0 : Nat) (gs0 : List (List Int)) (n1 : Int) (w : World) (hC0 : Kd.C (Kd.slice 2 (Kd.int .i64)) w A0 gs0.length gs0) (hc0 : gs0.length ≤ c0) :
  Calls Try.prog 11 #[.agg #[.int .i64 n0, .slice A0 gs0.length c0], .int .i64 n1] w fun e w' => e = .returned (.bool true) ∧ Below w.heap.size w w' :=
 ExFamilyTable.walk n0 A0 c0 gs0 n1 w hC0 hc0 _ _ _ _ (fun _ => fam_small n0 gs0 n1)
  (fun _ W A c a1 a2 => specFam_calls n0 A c gs0 n1 W a1 a2)
  (fun _ W A c a1 a2 => implFam_calls n0 A c gs0 n1 W a1 a2)
end Go.Proofs.Ytdahdeohmbadhaa.SaidFamilyTable
