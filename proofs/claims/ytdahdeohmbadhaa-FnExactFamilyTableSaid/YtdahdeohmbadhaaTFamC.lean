/- FamilyTable: the division of a secret, in plain terms; what the program's function of a list of numbers tells. FamilyTable: the rows of all lists are put into a variable. FamilyTable: the reference's l06Divide is the plain division. -/
import Derived.Test.YtdahdeohmbadhaaTFamR
import Derived.Test.YtdahdeohmbadhaaTFamD
namespace Go.Proofs.Ytdahdeohmbadhaa.TFam
open Go.RowKit Go.Lib Go.Proofs Go.Proofs.YtdahdeohmbadhaaW.PrintWords Go.Proofs.YtdahdeohmbadhaaW.PrintWords.Kd Go.Proofs.YtdahdeohmbadhaaW.PrintLast Go.Proofs.YtdahdeohmbadhaaW.PrintMore Go.Proofs.Ytdahdeohmbadhaa.G Go.Proofs.Ytdahdeohmbadhaa.Fam Go.Proofs.Ytdahdeohmbadhaa.Loops Go.Proofs.Ytdahdeohmbadhaa.TFamR
set_option linter.unusedVariables false
set_option linter.unusedSimpArgs false

theorem rdg (xs : List (List Int)) (n : Nat) : rd_L1 xs (n : Int) = xs.getD n [] := by simp [rd_L1]
/-- A holder's share with one more number. -/
def putD (s : Int) (sh : List Int) (h x : Int) : List Int := sh.set h.toNat (wrap64 (wrap64 (rd sh h * s) + x))
/-- The division among one group: what is left of the numbers, the shares. -/
def grpD (s : Int) : List Int → Int → List Int → List Int → List Int × List Int
 | [], _, rest, sh => (rest, sh)
 | h :: g, last, rest, sh => if g = [] then (rest, putD s sh h last) else grpD s g (Int.tmod (wrap64 (wrap64 (last - rd rest 0) + s)) s) (rest.drop 1) (putD s sh h (rd rest 0))
/-- The division among all groups. -/
def allD (s sec : Int) : List (List Int) → List Int → List Int → List Int
 | [], _, sh => sh
 | g :: gs, rest, sh => allD s sec gs (grpD s g sec rest sh).1 (grpD s g sec rest sh).2
def rowD (s : Int) (n : Nat) (gs : List (List Int)) (l : List Int) : S87 := ⟨rd l 0, allD s (rd l 0) gs (l.drop 1) (List.replicate n 0)⟩
def freeN : List (List Int) → Nat
 | [] => 0
 | g :: gs => (g.length - 1) + freeN gs
theorem putD_len (s : Int) (sh : List Int) (h x : Int) : (putD s sh h x).length = sh.length := List.length_set
theorem grpD_len (s : Int) : ∀ (g : List Int) (last : Int) (rest sh : List Int), (grpD s g last rest sh).2.length = sh.length ∧ (grpD s g last rest sh).1 = rest.drop (g.length - 1)
 | [], _, _, _ => ⟨rfl, rfl⟩
 | h :: g, last, rest, sh => by
  unfold grpD
  by_cases e : g = []
  ·
   subst e
   rw [if_pos rfl]
   exact ⟨putD_len _ _ _ _, rfl⟩
  ·
   rw [if_neg e]
   obtain ⟨h1, h2⟩ := grpD_len s g (Int.tmod (wrap64 (wrap64 (last - rd rest 0) + s)) s) (rest.drop 1) (putD s sh h (rd rest 0))
   refine ⟨h1.trans (putD_len _ _ _ _), h2.trans ?_⟩
   rw [List.drop_drop]
   have : 0 < g.length := List.length_pos_iff.2 e
   exact congrArg (fun n => rest.drop n) (by rw [List.length_cons]; omega)
theorem drop_at {α : Type} (d : α) {l : List α} {i : Nat} (hi : i < l.length) : l.drop i = l.getD i d :: l.drop (i + 1) := by
 rw [List.drop_eq_getElem_cons hi, List.getD_eq_getElem?_getD, List.getElem?_eq_getElem hi]
 rfl
theorem mem_at {α : Type} {d : α} {l : List α} {i : Nat} (hi : i < l.length) : l.getD i d ∈ l := by
 rw [List.getD_eq_getElem?_getD, List.getElem?_eq_getElem hi]
 exact List.getElem_mem hi
theorem l1_is {s : Int} (hs : s ≠ 0) {n : Nat} {g : List Int} (hgl : g.length ≤ 1000) (hg : ∀ h ∈ g, 0 ≤ h ∧ h < (n : Int)) (gs : List (List Int)) (j sec : Int) (r : Int × List Int) :
  ∀ (d i : Nat) (last : Int) (rest sh : List Int), i + d = g.length → sh.length = n → d - 1 ≤ rest.length →
   Ev (fun k => famN.l0 k s (grpD s (g.drop i) last rest sh).1 gs (gs.length : Int) (wrap64 (j + 1)) sec (grpD s (g.drop i) last rest sh).2) r →
   Ev (fun k => famN.l1 k s rest g last gs (gs.length : Int) j g (g.length : Int) (i : Int) sec sh) r := by
 intro d
 induction d with
 | zero =>
  intro i last rest sh hi hsh hr h
  rw [List.drop_eq_nil_of_le (by omega)] at h
  refine Ev.step (fun k => ?_) h
  simp only [famN.l1]
  rw [if_neg (by omega)]
  rfl
 | succ d ih =>
  intro i last rest sh hi hsh hr h
  have hlt : i < g.length := by omega
  have hgi := hg _ (mem_at (d := 0) hlt)
  have hw : wrap64 ((i : Int) + 1) = ((i + 1 : Nat) : Int) := by rw [wrap_id (by omega) (by omega)]; omega
  have hw1 : wrap64 ((g.length : Int) - 1) = (g.length : Int) - 1 := wrap_id (by omega) (by omega)
  rw [drop_at 0 hlt] at h
  by_cases hd : d = 0
  ·
   subst hd
   have he : g.drop (i + 1) = [] := List.drop_eq_nil_of_le (by omega)
   have h2 := ih (i + 1) last rest (putD s sh (g.getD i 0) last) (by omega) (by rw [putD_len]; exact hsh) (by omega) (by
    rw [he]
    unfold grpD at h
    rw [if_pos he] at h
    exact h)
   refine Ev.step (fun k => ?_) h2
   simp only [famN.l1]
   rw [if_pos (by omega), if_pos (by omega), if_pos (by omega), hw1, if_neg (by omega), rd_nat, if_pos hgi.1, if_pos (by omega), hw]
   rfl
  ·
   have he : g.drop (i + 1) ≠ [] := fun e => by have := congrArg List.length e; rw [List.length_drop, List.length_nil] at this; omega
   have h2 := ih (i + 1) (Int.tmod (wrap64 (wrap64 (last - rd rest 0) + s)) s) (rest.drop 1) (putD s sh (g.getD i 0) (rd rest 0)) (by omega) (by rw [putD_len]; exact hsh) (by rw [List.length_drop]; omega) (by
    conv at h => unfold grpD
    rw [if_neg he] at h
    exact h)
   refine Ev.step (fun k => ?_) h2
   simp only [famN.l1]
   rw [if_pos (by omega), if_pos (by omega), if_pos (by omega), hw1, if_pos (by omega), if_pos (by omega), if_pos (by omega), if_neg hs, rd_nat, if_pos hgi.1, if_pos (by omega), hw]
   rfl
theorem l0_is {s : Int} (hs : s ≠ 0) {n : Nat} {gs : List (List Int)} (hgs : gs.length ≤ 1000) (hg : ∀ g ∈ gs, g.length ≤ 1000 ∧ ∀ h ∈ g, 0 ≤ h ∧ h < (n : Int)) (sec : Int) :
  ∀ (d j : Nat) (rest sh : List Int), j + d = gs.length → sh.length = n → freeN (gs.drop j) ≤ rest.length →
   Ev (fun k => famN.l0 k s rest gs (gs.length : Int) (j : Int) sec sh) (sec, allD s sec (gs.drop j) rest sh) := by
 intro d
 induction d with
 | zero =>
  intro j rest sh hj hsh hr
  rw [List.drop_eq_nil_of_le (by omega)]
  refine Ev.step (f := fun _ => some (sec, sh)) (fun k => ?_) (Ev.now _)
  simp only [famN.l0]
  exact if_neg (by omega)
 | succ d ih =>
  intro j rest sh hj hsh hr
  have hlt : j < gs.length := by omega
  have hgj := hg _ (mem_at (d := []) hlt)
  have hw : wrap64 ((j : Int) + 1) = ((j + 1 : Nat) : Int) := by rw [wrap_id (by omega) (by omega)]; omega
  rw [drop_at [] hlt] at hr ⊢
  have hr' : ((gs.getD j []).length - 1) + freeN (gs.drop (j + 1)) ≤ rest.length := hr
  obtain ⟨e1, e2⟩ := grpD_len s (gs.getD j []) sec rest sh
  have h1 := l1_is hs hgj.1 hgj.2 gs (j : Int) sec (sec, allD s sec (gs.getD j [] :: gs.drop (j + 1)) rest sh) (gs.getD j []).length 0 sec rest sh (by omega) hsh (by omega) (by
   rw [List.drop_zero, hw]
   exact ih (j + 1) _ _ (by omega) (e1.trans hsh) (by rw [e2, List.length_drop]; omega))
  refine Ev.step (fun k => ?_) h1
  simp only [famN.l0]
  rw [if_pos (by omega), if_pos (by omega), if_pos (by omega), rdg]
  rfl
theorem fam_is {s : Int} (hs : s ≠ 0) {n : Nat} (hn : n ≤ 7) {gs : List (List Int)} (hgs : gs.length ≤ 1000) (hg : ∀ g ∈ gs, g.length ≤ 1000 ∧ ∀ h ∈ g, 0 ≤ h ∧ h < (n : Int)) {l : List Int} (hl : l.length = freeN gs + 1) :
  Ev (fun k => famN.f k l (n : Int) gs s) ((rowD s n gs l).f0, (rowD s n gs l).f1) := by
 unfold famN.f
 simp only [if_pos (show 0 < (l.length : Int) by omega), if_pos (show 0 ≤ (n : Int) by omega), if_pos (show 1 ≤ (l.length : Int) by omega), Int.toNat_natCast, if_pos (show n ≤ 35184372088832 by omega)]
 exact l0_is hs hgs hg (rd l 0) gs.length 0 (l.drop 1) (List.replicate n 0) (by omega) List.length_replicate (by rw [List.drop_zero, List.length_drop]; omega)
end Go.Proofs.Ytdahdeohmbadhaa.TFam

namespace Go.Proofs.Ytdahdeohmbadhaa.TFam
open Go.RowKit Go.Lib Go.Proofs Go.Proofs.YtdahdeohmbadhaaW.PrintWords Go.Proofs.YtdahdeohmbadhaaW.PrintWords.Kd Go.Proofs.YtdahdeohmbadhaaW.PrintLast Go.Proofs.YtdahdeohmbadhaaW.PrintMore Go.Proofs.Ytdahdeohmbadhaa.G Go.Proofs.Ytdahdeohmbadhaa.Fam Go.Proofs.Ytdahdeohmbadhaa.Loops Go.Proofs.Ytdahdeohmbadhaa.TLists Go.Proofs.Ytdahdeohmbadhaa.TFamR
set_option linter.unusedVariables false
set_option linter.unusedSimpArgs false

/-- A list of numbers of one's own, where its block is as it was. -/
theorem keepV {W W' : World} {base : Nat} {ok ok' : Nat → Prop} {v : Value} {l : List Int} (h : Kd.R (Kd.int .i64) 2 W base ok v l) (hk : ∀ g cs, v.ownBlock = some g → W.heap[g]? = some (.cells cs 2 (0, 0)) → W'.heap[g]? = some (.cells cs 2 (0, 0))) (hok : ∀ g, v.ownBlock = some g → ok' g) : Kd.R (Kd.int .i64) 2 W' base ok' v l := by
 obtain ⟨h1, h2⟩ := own_of_R h
 rcases h2 with h2 | ⟨g', cap, cur, e, hb, hh, h3, h4, h5, h6⟩
 ·
  exact R_of_own ⟨h1, .inl h2⟩ hok
 ·
  exact R_of_own ⟨h1, .inr ⟨g', cap, cur, e, hb, hk _ _ (by rw [e]; rfl) hh, h3, h4, h5, h6⟩⟩ hok
theorem own_here (g m c : Nat) : (Value.slice (some ⟨g, 0, none⟩) m c).ownBlock = some g := rfl
/-- The variable with the rows, and what lies beside it. -/
def RowsIn (w0 : World) (gr : Nat) (ok : Nat → Prop) (rows : List S87) (W : World) : Prop := ∃ v, W.heap[gr]? = some (.cells #[v] 25 (0, 0)) ∧ Kd.S k87 87 W w0.heap.size ok v rows
def Beside (ks : List (Nat × Array Value × Nat)) (W : World) : Prop := ∀ k ∈ ks, W.heap[k.1]? = some (.cells k.2.1 k.2.2 (0, 0))
theorem Beside.below {ks : List (Nat × Array Value × Nat)} {W W' : World} (h : Beside ks W) (hb : Below W.heap.size W W') : Beside ks W' := fun k hk => blk_below (h k hk) hb
theorem RowsIn.intro {w0 W : World} {gr : Nat} {ok : Nat → Prop} {rows : List S87} {v : Value} (h1 : W.heap[gr]? = some (.cells #[v] 25 (0, 0))) (h2 : Kd.S k87 87 W w0.heap.size ok v rows) : RowsIn w0 gr ok rows W := ⟨v, h1, h2⟩
theorem Beside.three {a b c : Nat × Array Value × Nat} {W : World} (ha : W.heap[a.1]? = some (.cells a.2.1 a.2.2 (0, 0))) (hb : W.heap[b.1]? = some (.cells b.2.1 b.2.2 (0, 0))) (hc : W.heap[c.1]? = some (.cells c.2.1 c.2.2 (0, 0))) : Beside [a, b, c] W := fun k hk => by
 simp only [List.mem_cons, List.mem_nil_iff, or_false] at hk
 rcases hk with rfl | rfl | rfl
 ·
  exact ha
 ·
  exact hb
 ·
  exact hc
theorem three_all {α : Type} {Q : α → Prop} {a b c : α} (ha : Q a) (hb : Q b) (hc : Q c) : ∀ k ∈ [a, b, c], Q k := fun k hk => by
 simp only [List.mem_cons, List.mem_nil_iff, or_false] at hk
 rcases hk with rfl | rfl | rfl
 ·
  exact ha
 ·
  exact hb
 ·
  exact hc
/-- What the rows are told of. -/
def FitF (free s n : Int) (gs : List (List Int)) : Prop := (1 ≤ s ∧ s ≤ 64) ∧ (0 ≤ n ∧ n ≤ 7) ∧ gs.length ≤ 1000 ∧ (∀ g ∈ gs, g.length ≤ 1000 ∧ ∀ h ∈ g, 0 ≤ h ∧ h < n) ∧ free = ((freeN gs + 1 : Nat) : Int) ∧ freeN gs < 1000 ∧ s.toNat ^ (freeN gs + 1) ≤ 700
instance (free s n : Int) (gs : List (List Int)) : Decidable (FitF free s n gs) := by unfold FitF; infer_instance
def rowsP (s : Nat) (m n : Nat) (gs : List (List Int)) : List S87 := ((List.range (s ^ m)).map (digs s m)).map (rowD (s : Int) n gs)
def rowsF (free s n : Int) (gs : List (List Int)) : Option (List S87) := if FitF free s n gs then some (rowsP s.toNat (freeN gs + 1) n.toNat gs) else none
set_option maxRecDepth 100000 in
theorem fam_rows_calls (free s n : Int) (A : Option Addr) (c : Nat) (gs : List (List Int)) (rows : List S87) (hf : rowsF free s n gs = some rows) (w0 w : World) (gf gq gr : Nat) (ks : List (Nat × Array Value × Nat)) (v7 : Value) (x7 : List Int)
  (hC : Kd.C (Kd.slice 2 (Kd.int .i64)) w0 A gs.length gs) (hc : gs.length ≤ c) (hb : Below w0.heap.size w0 w) (hgr : w0.heap.size ≤ gr)
  (hr : RowsIn w0 gr (fun _ => True) [] w) (hks : Beside ks w) (hp : (gf, #[Value.int .i64 n, Value.slice A gs.length c], 58) ∈ ks) (hq : (gq, #[Value.int .i64 s], 2) ∈ ks)
  (hne : ∀ k ∈ ks, k.1 ≠ gr ∧ k.2.2 ≠ 87) (h7 : Kd.R (Kd.int .i64) 2 w w0.heap.size (fun _ => True) v7 x7) (hn7 : some gr ≠ v7.ownBlock) :
  Calls Try.prog 105 #[.int .i64 free, .int .i64 s, .func (.func 117) #[] #[.pointer (some ⟨gf, 0, none⟩), .pointer (some ⟨gq, 0, none⟩), .pointer (some ⟨gr, 0, none⟩)]] w fun e w' =>
   e = .returned (.tuple #[]) ∧ RowsIn w0 gr (fun _ => True) rows w' ∧ Beside ks w' ∧ Below w0.heap.size w0 w' ∧ Kd.R (Kd.int .i64) 2 w' w0.heap.size (fun _ => True) v7 x7 := by
 unfold rowsF at hf
 split at hf
 case isFalse => cases hf
 rename_i hfit
 injection hf with hf
 subst hf
 obtain ⟨hs, hn, hgs, hg, rfl, hm, hpow⟩ := hfit
 obtain ⟨S, rfl⟩ : ∃ S : Nat, s = (S : Int) := ⟨s.toNat, by omega⟩
 obtain ⟨N, rfl⟩ : ∃ N : Nat, n = (N : Int) := ⟨n.toNat, by omega⟩
 rw [Int.toNat_natCast] at hpow
 simp only [Int.toNat_natCast]
 obtain ⟨v0, hr1, hr2⟩ := hr
 have hrl := blk_lt hr1
 have hkl : ∀ k ∈ ks, k.1 < w.heap.size := fun k hk => blk_lt (hks k hk)
 have h7l : ∀ k, v7.ownBlock = some k → k < w.heap.size := fun k hk => Kd.R_lt h7 k hk
 refine (lists_calls (freeN gs + 1) S (by omega) (by omega) 117 #[.pointer (some ⟨gf, 0, none⟩), .pointer (some ⟨gq, 0, none⟩), .pointer (some ⟨gr, 0, none⟩)] (enters_of Try.func117 (by kernel_rfl) rfl)
  (fun g seen W => RowsIn w0 gr (fun k => k ≠ g) (seen.map (rowD (S : Int) N gs)) W ∧ Beside ks W ∧ Below w0.heap.size w0 W ∧ Kd.R (Kd.int .i64) 2 W w0.heap.size (fun _ => True) v7 x7) w ?_ ?_ ?_).mono ?_
 ·
  rintro seen l W g c' hsl hl hg' ⟨⟨v, hv1, hv2⟩, hks', hb', h7'⟩ hR
  obtain ⟨k, hk⟩ := (fam_is (s := (S : Int)) (by omega) (by omega) hgs hg hl).rounds
  obtain ⟨e1, hc', hCl⟩ := R_reads' hR
  have hgl : g < W.heap.size := Kd.R_lt hR g rfl
  have hV : Kd.V (Kd.int .i64) 2 W W.heap.size (fun k_ => k_ = g) (.slice (some ⟨g, 0, none⟩) l.length c') l := Kd.V_mk (by omega) (fun W' hW => (R_reads' (keepV (ok' := fun _ => True) (W' := W') hR (fun g' cs hg2 hcs => by
   injection hg2 with hg2
   subst hg2
   exact (hW g rfl hgl).trans hcs) (fun _ _ => trivial))).2.2)
  have H := famN.calls k (fun k_ => k_ = g) (some ⟨g, 0, none⟩) c' l (N : Int) A c gs (S : Int) _ _ w0 W gf gq gr (fun k => k ≠ g) v (seen.map (rowD (S : Int) N gs)) hV (Kd.C_below hC hb') hc (fun k_ hk_ e_ => by have h1 : gf < w.heap.size := hkl _ hp; have h2 : k_ = g := hk_; omega) (hks' _ hp) ((blk_cell (hks' _ hq) 0).trans rfl) hv1 hv2 (fun k hk => by omega) hb' hgr (by rw [List.length_map]; omega) hk
  rw [hl] at H
  refine H.mono ?_
  rintro e w' ⟨rfl, v1, h1, h2, h3, h4⟩
  exact ⟨rfl, ⟨⟨v1, h1, by rw [List.map_append]; exact h2⟩, fun k hk => h4 _ _ _ (hks' k hk) (hne k hk).1 (hne k hk).2, h3, keepV h7' (fun g' cs hg2 hcs => h4 g' cs _ hcs (fun e_ => hn7 (by rw [← e_]; exact hg2.symm)) (by decide)) (fun _ _ => trivial)⟩, keepV hR (fun g' cs hg2 hcs => h4 g' cs _ hcs (by have h_ : some g = some g' := hg2; injection h_ with h_; omega) (by decide)) (fun _ _ => trivial)⟩
 ·
  intro W g hbW hg'
  exact ⟨⟨v0, blk_below hr1 hbW, Kd.S_mono (Kd.S_below (Kd.S_bound hr2) hbW) (fun k hk => by have := hk.2.2.1; omega)⟩, hks.below hbW, below_then hb hb.size hbW, Kd.R_below h7 hbW⟩
 ·
  rintro g seen W i x hg' ⟨⟨v, hv1, hv2⟩, hks', hb', h7'⟩
  exact ⟨⟨v, blk_far hv1 (by show gr ≠ g; omega) x, Kd.S_far hv2 (fun k hk => hk) x⟩, fun k hk => blk_far (hks' k hk) (by have := hkl k hk; show k.1 ≠ g; omega) x, below_set hb' (by have := hb.size; omega), keepV h7' (fun g' cs hg2 hcs => blk_far hcs (by have := h7l g' hg2; show g' ≠ g; omega) x) (fun _ _ => trivial)⟩
 ·
  rintro e w' ⟨rfl, g, hg', ⟨v, h1, h2⟩, h3, h4, h5⟩
  exact ⟨rfl, ⟨v, h1, Kd.S_mono h2 (fun _ _ => trivial)⟩, h3, h4, h5⟩
/-- One number in new memory. -/
theorem one_C (W : World) (p : Int) : Kd.C (Kd.int .i64) (W.alloc (.cells #[.int .i64 p] 2)) (some ⟨W.heap.size, 0, none⟩) 1 [p] := by
 have h : Kd.R (Kd.int .i64) 2 (W.alloc (.cells #[.int .i64 p] 2)) 0 (fun _ => True) (.slice (some ⟨W.heap.size, 0, none⟩) 1 1) [p] := R_of_own ⟨rfl, .inr ⟨W.heap.size, 1, #[.int .i64 p], rfl, Nat.zero_le _, blk_new W _, Nat.le_refl _, by unfold maxLen; omega, rfl, rfl⟩⟩ (fun _ _ => trivial)
 exact (R_reads' h).2.2
end Go.Proofs.Ytdahdeohmbadhaa.TFam

namespace Go.Proofs.Ytdahdeohmbadhaa.TFam
open Go.RowKit Go.Lib Go.Proofs Go.Proofs.YtdahdeohmbadhaaW.PrintWords Go.Proofs.YtdahdeohmbadhaaW.PrintWords.Kd Go.Proofs.YtdahdeohmbadhaaW.PrintLast Go.Proofs.YtdahdeohmbadhaaW.PrintMore Go.Proofs.Ytdahdeohmbadhaa.G Go.Proofs.Ytdahdeohmbadhaa.Fam Go.Proofs.Ytdahdeohmbadhaa.Loops Go.Proofs.Ytdahdeohmbadhaa.TFamD
set_option linter.unusedVariables false
set_option linter.unusedSimpArgs false

theorem rd_drop (l : List Int) (n : Nat) : rd (l.drop n) 0 = l.getD n 0 := by
 rw [show rd (l.drop n) 0 = (l.drop n).getD 0 0 from rfl]
 simp [List.getD]
theorem left_same {s a b : Int} (h : 1 ≤ s ∧ s ≤ 64) (ha : 0 ≤ a ∧ a < s) (hb : 0 ≤ b ∧ b < s) : Int.tmod (wrap64 (wrap64 (a + s) - b)) s = Int.tmod (wrap64 (wrap64 (a - b) + s)) s ∧ 0 ≤ Int.tmod (wrap64 (wrap64 (a - b) + s)) s ∧ Int.tmod (wrap64 (wrap64 (a - b) + s)) s < s := by
 have e1 : wrap64 (wrap64 (a + s) - b) = a - b + s := by rw [wrap_id (i := a + s) (by omega) (by omega), wrap_id (by omega) (by omega)]; omega
 have e2 : wrap64 (wrap64 (a - b) + s) = a - b + s := by rw [wrap_id (i := a - b) (by omega) (by omega), wrap_id (by omega) (by omega)]
 rw [e1, e2]
 exact ⟨rfl, Int.tmod_nonneg _ (by omega), Int.tmod_lt_of_pos _ (by omega)⟩
theorem wrap_nat1 (i : Nat) (h : i ≤ 1000000) : wrap64 ((i : Int) + 1) = ((i + 1 : Nat) : Int) := by
 rw [wrap_id (by omega) (by omega)]
 omega
theorem d1_is {s : Int} (hs : 1 ≤ s ∧ s ≤ 64) {n : Nat} {g what : List Int} (hgl : g.length ≤ 1000) (hg : ∀ h ∈ g, 0 ≤ h ∧ h < (n : Int)) (hw : ∀ x ∈ what, 0 ≤ x ∧ x < s) (hwl : what.length ≤ 1000) (gs : List (List Int)) (j sec n' : Int) (r : List Int) :
  ∀ (d i a : Nat) (left : Int) (out : List Int), i + (d + 1) = g.length → out.length = n → a + d ≤ what.length → (0 ≤ left ∧ left < s) →
   Ev (fun k => divN.l0 k s sec what (grpD s (g.drop i) left (what.drop a) out).2 ((a + d : Nat) : Int) (wrap64 (j + 1)) n' gs) r →
   Ev (fun k => divN.l1 k s sec what out (a : Int) j g left (i : Int) n' gs) r := by
 intro d
 induction d with
 | zero =>
  intro i a left out hi ho ha hl h
  have hlt : i < g.length := by omega
  have hgi := hg _ (mem_at (d := 0) hlt)
  rw [drop_at 0 hlt, List.drop_eq_nil_of_le (i := i + 1) (by omega)] at h
  have o1 : ¬ ((i + 1 : Nat) : Int) < (g.length : Int) := by omega
  have o2 : 0 ≤ (i : Int) := by omega
  have o3 : (i : Int) < (g.length : Int) := by omega
  have o4 : g.getD i 0 < (out.length : Int) := by rw [ho]; exact hgi.2
  have hw2 : wrap64 ((g.length : Int) - 1) = (i : Int) := by rw [wrap_id (by omega) (by omega)]; omega
  have hw1 : wrap64 ((i : Int) + 1) = ((i + 1 : Nat) : Int) := wrap_nat1 i (by omega)
  refine Ev.step (fun k => ?_) h
  simp only [divN.l1]
  rw [hw1, if_neg o1, hw2, if_pos o2, if_pos o3, rd_nat, if_pos hgi.1, if_pos o4]
  rfl
 | succ d ih =>
  intro i a left out hi ho ha hl h
  have hlt : i < g.length := by omega
  have hgi := hg _ (mem_at (d := 0) hlt)
  have hwa := hw _ (mem_at (d := 0) (l := what) (i := a) (by omega))
  have he : g.drop (i + 1) ≠ [] := fun e => by have := congrArg List.length e; rw [List.length_drop, List.length_nil] at this; omega
  have o1 : ((i + 1 : Nat) : Int) < (g.length : Int) := by omega
  have o2 : 0 ≤ (i : Int) := by omega
  have o3 : (i : Int) < (g.length : Int) := by omega
  have o4 : g.getD i 0 < (out.length : Int) := by rw [ho]; exact hgi.2
  have o5 : 0 ≤ (a : Int) := by omega
  have o6 : (a : Int) < (what.length : Int) := by omega
  have o7 : ¬ s = 0 := by omega
  have o8 : i + 1 + (d + 1) = g.length := by omega
  have o9 : a + 1 + d ≤ what.length := by omega
  have oa : a + 1 + d = a + (d + 1) := by omega
  have hw1 : wrap64 ((i : Int) + 1) = ((i + 1 : Nat) : Int) := wrap_nat1 i (by omega)
  have hw3 : wrap64 ((a : Int) + 1) = ((a + 1 : Nat) : Int) := wrap_nat1 a (by omega)
  obtain ⟨e1, e2⟩ := left_same hs hl hwa
  have h2 := ih (i + 1) (a + 1) (Int.tmod (wrap64 (wrap64 (left - what.getD a 0) + s)) s) (putD s out (g.getD i 0) (what.getD a 0)) o8 (by rw [putD_len]; exact ho) o9 e2 (by
   rw [drop_at 0 hlt] at h
   conv at h => unfold grpD
   rw [if_neg he, rd_drop, List.drop_drop] at h
   rw [oa]
   exact h)
  refine Ev.step (fun k => ?_) h2
  simp only [divN.l1]
  rw [hw1, if_pos o1, if_pos o2, if_pos o3, rd_nat, if_pos hgi.1, if_pos o4, if_pos o5, if_pos o6, if_neg o7, rd_nat, e1, hw3]
  rfl
theorem d0_is {s sec : Int} (hs : 1 ≤ s ∧ s ≤ 64) (hsec : 0 ≤ sec ∧ sec < s) {n : Nat} {gs : List (List Int)} (hgs : gs.length ≤ 1000) (hg : ∀ g ∈ gs, 1 ≤ g.length ∧ g.length ≤ 1000 ∧ ∀ h ∈ g, 0 ≤ h ∧ h < (n : Int)) {what : List Int} (hw : ∀ x ∈ what, 0 ≤ x ∧ x < s) (hwl : what.length ≤ 1000) (n' : Int) :
  ∀ (d j a : Nat) (out : List Int), j + d = gs.length → out.length = n → a + freeN (gs.drop j) ≤ what.length →
   Ev (fun k => divN.l0 k s sec what out (a : Int) (j : Int) n' gs) (allD s sec (gs.drop j) (what.drop a) out) := by
 intro d
 induction d with
 | zero =>
  intro j a out hj ho ha
  rw [List.drop_eq_nil_of_le (i := j) (by omega)]
  refine Ev.step (f := fun _ => some out) (fun k => ?_) (Ev.now _)
  simp only [divN.l0]
  exact if_neg (by omega)
 | succ d ih =>
  intro j a out hj ho ha
  have hlt : j < gs.length := by omega
  have hgj := hg _ (mem_at (d := []) hlt)
  have o1 : 0 ≤ (j : Int) := by omega
  have o2 : (j : Int) < (gs.length : Int) := by omega
  have hw1 : wrap64 ((j : Int) + 1) = ((j + 1 : Nat) : Int) := wrap_nat1 j (by omega)
  have HW1 := Aside0.mk hw1
  clear hw1
  rw [drop_at [] hlt] at ha ⊢
  have ha' : a + (((gs.getD j []).length - 1) + freeN (gs.drop (j + 1))) ≤ what.length := ha
  obtain ⟨e1, e2⟩ := grpD_len s (gs.getD j []) sec (what.drop a) out
  have h1 := d1_is hs hgj.2.1 hgj.2.2 hw hwl gs (j : Int) sec n' (allD s sec (gs.getD j [] :: gs.drop (j + 1)) (what.drop a) out) ((gs.getD j []).length - 1) 0 a sec out (by omega) ho (by omega) hsec (by
   rw [List.drop_zero, HW1.out]
   have h3 := ih (j + 1) (a + ((gs.getD j []).length - 1)) (grpD s (gs.getD j []) sec (what.drop a) out).2 (by omega) (e1.trans ho) (by omega)
   have e3 : allD s sec (gs.getD j [] :: gs.drop (j + 1)) (what.drop a) out = allD s sec (gs.drop (j + 1)) (what.drop (a + ((gs.getD j []).length - 1))) (grpD s (gs.getD j []) sec (what.drop a) out).2 := by
    show allD s sec (gs.drop (j + 1)) (grpD s (gs.getD j []) sec (what.drop a) out).1 _ = _
    rw [e2, List.drop_drop]
   rw [e3]
   exact h3)
  refine Ev.step (fun k => ?_) h1
  simp only [divN.l0]
  rw [if_pos o2, if_pos o1, rdg]
  rfl
/-- What the division asks for. -/
def DivOk (n : Int) (gs : List (List Int)) (s sec : Int) (what : List Int) : Prop := (1 ≤ s ∧ s ≤ 64) ∧ (0 ≤ n ∧ n ≤ 7) ∧ gs.length ≤ 1000 ∧ (∀ g ∈ gs, 1 ≤ g.length ∧ g.length ≤ 1000 ∧ ∀ h ∈ g, 0 ≤ h ∧ h < n) ∧ (0 ≤ sec ∧ sec < s) ∧ (∀ x ∈ what, 0 ≤ x ∧ x < s) ∧ freeN gs ≤ what.length ∧ what.length ≤ 1000
instance (n : Int) (gs : List (List Int)) (s sec : Int) (what : List Int) : Decidable (DivOk n gs s sec what) := by unfold DivOk; infer_instance
def divideF (n : Int) (gs : List (List Int)) (s sec : Int) (what : List Int) : Option (List Int) := if DivOk n gs s sec what then some (allD s sec gs what (List.replicate n.toNat 0)) else none
theorem divide_calls (a0_0 : Int) (A0_1 : Option Addr) (c0_1 : Nat) (l0_1 : List (List Int)) (a1 : Int) (a2 : Int) (A3 : Option Addr) (c3 : Nat) (l3 : List Int) (r : List Int) (g : Nat) (w : World) (hr0_1 : Kd.C (Kd.slice 2 (Kd.int .i64)) w A0_1 l0_1.length l0_1) (hc0_1 : l0_1.length ≤ c0_1) (hr3 : Kd.C (Kd.int .i64) w A3 l3.length l3) (hc3 : l3.length ≤ c3) (hb : w.heap[g]? = some (.cells #[.int .i64 a0_0, .slice A0_1 l0_1.length c0_1] 58 (0, 0))) (h : divideF a0_0 l0_1 a1 a2 l3 = some r) :
  Calls Try.prog 113 #[.pointer (some ⟨g, 0, none⟩), .int .i64 a1, .int .i64 a2, .slice A3 l3.length c3] w fun e w' => ∃ v0_ : Value, e = .returned (v0_) ∧ Kd.R (Kd.int .i64) 2 w' w.heap.size (fun _ => True) v0_ r ∧ Below w.heap.size w w' := by
 unfold divideF at h
 split at h
 case isFalse => cases h
 rename_i hd
 injection h with h
 subst h
 obtain ⟨hs, hn, hgs, hg, hsec, hw, hf, hwl⟩ := hd
 obtain ⟨N, rfl⟩ : ∃ N : Nat, a0_0 = (N : Int) := ⟨a0_0.toNat, by omega⟩
 have hE : Ev (fun k => divN.f k (N : Int) l0_1 a1 a2 l3) (allD a1 a2 l0_1 l3 (List.replicate ((N : Int)).toNat 0)) := by
  unfold divN.f
  simp only [if_pos (show 0 ≤ (N : Int) by omega), Int.toNat_natCast, if_pos (show N ≤ 35184372088832 by omega)]
  exact d0_is hs hsec hgs hg hw hwl (N : Int) l0_1.length 0 0 (List.replicate N 0) (by omega) List.length_replicate (by rw [List.drop_zero]; omega)
 obtain ⟨k, hk⟩ := hE.rounds
 exact divN.calls k (N : Int) A0_1 c0_1 l0_1 a1 a2 A3 c3 l3 _ g w hr0_1 hc0_1 hr3 hc3 hb hk
end Go.Proofs.Ytdahdeohmbadhaa.TFam
