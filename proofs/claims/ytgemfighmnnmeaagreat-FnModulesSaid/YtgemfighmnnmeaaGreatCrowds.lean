/- What slices.SortFunc leaves in memory. Contract of slices.SortFunc at [][]int64 with slices.Compare: a row of the call's own whose rows differ ends in lexicographic order. Contracts of crowds and familyOf, whatever predicate on sets is handed over. Contract of familyOf, whatever predicate on sets is handed over. Contracts of ValidFamily, DualFamily, ThresholdFamily, WeightedFamily. -/
import Derived.Test.YtgemfighmnnmeaaGreatShelf
import Derived.Test.YtgemfighmnnmeaaGreatWWords
import Derived.Test.YtgemfighmnnmeaaGreatWApart
import Derived.Test.YtgemfighmnnmeaaGreatWMore
import Derived.Test.YtgemfighmnnmeaaGreatWLast
import Derived.Test.YtgemfighmnnmeaaGreatGb
import Derived.Test.YtgemfighmnnmeaaGreatBits
import Derived.Deep.RegionHeld3
import Derived.Outline
import Derived.BigQuiet
namespace Go.Proofs.YtgemfighmnnmeaaGreat.Sorting
open Go.RowKit Go.Lib Go.Sort Go.Proofs Go.Proofs.YtgemfighmnnmeaaGreatW.PrintWords Go.Proofs.YtgemfighmnnmeaaGreatW.PrintWords.Kd Go.Proofs.YtgemfighmnnmeaaGreatW.PrintLast Go.Proofs.YtgemfighmnnmeaaGreatW.PrintMore
set_option linter.unusedVariables false
set_option linter.unusedSimpArgs false

section
variable {α : Type} [Inhabited α]
theorem holds_of_block {enc : α → Value} {w : World} {g : Nat} {cur : Array Value} {e : TypeId} {ss : List α} (hb : w.heap[g]? = some (.cells cur e (0, 0))) (ht : cur.toList.take ss.length = ss.map enc) : Holds enc w g 0 ss.toArray := by
  intro j hj
  have hj' : j < ss.length := by simpa using hj
  refine ⟨?_, by simp [World.frozen?, hb]⟩
  have h1 : (cur.toList.take ss.length)[j]? = (ss.map enc)[j]? := by rw [ht]
  rw [List.getElem?_take_of_lt hj'] at h1
  simp only [World.cell?, hb, Nat.zero_add]
  simp only [Option.isSome_none, Bool.false_eq_true, if_false]
  rw [← Array.getElem?_toList, h1]
  simp [hj']
theorem heap_sorted {enc : α → Value} {w : World} {g n : Nat} {os : Array Obj} {cur : Array Value} {e : TypeId} {fr : Nat × Nat} (d : Array α) (hb : w.heap[g]? = some (.cells cur e fr)) :
    (sortWorld enc w g 0 n d os).heap[g]? = some (.cells (putCells enc 0 d cur) e fr) := by
  have hg : g < w.heap.size := (Array.getElem?_eq_some_iff.1 hb).1
  unfold sortWorld
  rw [heap_grow_old _ _ (by simpa using hg)]
  simp [putRow, mapBlock, Sort.ahead, Array.getElem?_modify, hb, onCells]
theorem grownBy_sorted {enc : α → Value} {w : World} {g n : Nat} {os : Array Obj} (d : Array α) : w.grownBy (sortWorld enc w g 0 n d os) (some g) := by
  unfold sortWorld
  refine ⟨rfl, rfl, rfl, by simp, fun k hk hne => ?_⟩
  rw [heap_grow_old _ _ (by simpa using hk)]
  have : g ≠ k := fun e => hne (by rw [e])
  simp [putRow, mapBlock, Sort.ahead, Array.getElem?_modify, this]
theorem take_putCells {enc : α → Value} (cur : Array Value) (ts : List α) (h : ts.length ≤ cur.size) : (putCells enc 0 ts.toArray cur).toList.take ts.length = ts.map enc := by
  apply List.ext_getElem?
  intro j
  by_cases hj : j < ts.length
  · rw [List.getElem?_take_of_lt hj, Array.getElem?_toList]
    simp [putCells, hj, show j < cur.size by omega]
  · rw [List.getElem?_take_eq_none (by omega), List.getElem?_eq_none (by simp; omega)]
end

theorem nodup_inj {β : Type} {l : List β} (h : l.Nodup) {i j : Nat} (hi : i < l.length) (hj : j < l.length) (e : l[i] = l[j]) : i = j := by
  have hp := List.pairwise_iff_getElem.1 h
  rcases Nat.lt_trichotomy i j with hij | hij | hij
  · exact absurd e (hp i j hi hj hij)
  · exact hij
  · exact absurd e.symm (hp j i hj hi hij)


end Go.Proofs.YtgemfighmnnmeaaGreat.Sorting

namespace Go.Proofs.YtgemfighmnnmeaaGreat.Sorting
open Go.RowKit Go.Lib Go.Sort Go.Proofs Go.Proofs.YtgemfighmnnmeaaGreatW.PrintWords Go.Proofs.YtgemfighmnnmeaaGreatW.PrintWords.Kd Go.Proofs.YtgemfighmnnmeaaGreatW.PrintLast Go.Proofs.YtgemfighmnnmeaaGreatW.PrintMore Go.Proofs.YtgemfighmnnmeaaGreat.G Go.Proofs.YtgemfighmnnmeaaGreat.Fam Go.Proofs.YtgemfighmnnmeaaGreat.Bits
set_option linter.unusedVariables false
set_option linter.unusedSimpArgs false

/-- The comparison of two rows in any world in which they still lie. -/
theorem compare_calls (A A' : Option Addr) (c c' : Nat) (a b : List Int) (W : World) (ha : Kd.C (Kd.int .i64) W A a.length a) (hac : a.length ≤ c) (hb : Kd.C (Kd.int .i64) W A' b.length b) (hbc : b.length ≤ c') :
    Calls Tryz.prog 45 #[.slice A a.length c, .slice A' b.length c'] W fun e w' => e = .returned (.int .i64 (cmpL a b)) ∧ ∃ q, w' = W.drewN q :=
  (slices_Compare_int64_int64.calls (a.length + 1) A c a A' c' b _ W ha hac hb hbc (compare_is a b _ ha.2.1 (by omega))).mono fun e w' ⟨he, hd⟩ => ⟨he, hd.out⟩

/-- Rows of rows of numbers. -/
abbrev dR : Kd (List Int) := Kd.slice 2 (Kd.int .i64)

/-- A row of rows that is not empty, its elements by their numbers. -/
theorem S_numbers {base : Nat} {ok : Nat → Prop} {v : Value} {xs : List (List Int)} {w : World} (h : Kd.S dR 27 w base ok v xs) (hpos : 0 < xs.length) :
    ∃ (g cap : Nat) (cur : Array Value) (enc : Fin xs.length → Value) (f : Nat → Nat), v = .slice (some ⟨g, 0, none⟩) xs.length cap ∧ base ≤ g ∧ ok g ∧ w.heap[g]? = some (.cells cur 27 (0, 0)) ∧ xs.length ≤ cap ∧ cap ≤ maxLen ∧ cur.size = cap ∧
      cur.toList.take xs.length = (List.finRange xs.length).map enc ∧ ∀ i : Fin xs.length, dR.M w base (fun k => (ok k ∧ k ≠ g) ∧ f k = i.val) xs[i] [enc i] := by
  obtain ⟨f, hok, inner, ho, hr⟩ := h
  rw [List.length_zipIdx] at ho
  obtain ⟨hil, ho2⟩ := ho
  rcases ho2 with ⟨_, h0⟩ | ⟨g, cap, cur, rfl, hbase, hcur, hlc, hcm, hcs, htake⟩
  · omega
  rw [show (tag f dR).sz = 1 from rfl, Nat.mul_one] at *
  refine ⟨g, cap, cur, fun i => inner[i.val]'(by rw [hil]; exact i.isLt), f, rfl, hbase, hok g rfl, hcur, hlc, hcm, hcs, ?_, fun i => ?_⟩
  · rw [htake]
    apply List.ext_getElem
    · simp [hil]
    · intro i h1 h2; simp
  · have hz : xs.zipIdx[i.val]? = some (xs[i], i.val) := zip_at (List.getElem?_eq_getElem i.isLt)
    have hi := hr.2 i.val _ hz
    rw [Nat.mul_one, List.drop_eq_getElem_cons (by rw [hil]; exact i.isLt)] at hi
    exact dR.M_mono (fun k hk => ⟨⟨hk.1.1, fun e => hk.1.2 (by rw [e]; rfl)⟩, hk.2⟩) hi
/-- .. and back, the numbers in another order. -/
theorem S_renumber {base : Nat} {ok : Nat → Prop} {xs : List (List Int)} {w w' : World} {g cap : Nat} {cur cur' : Array Value} {enc : Fin xs.length → Value} {f : Nat → Nat} (hbase : base ≤ g) (hok : ok g) (hlc : xs.length ≤ cap) (hcm : cap ≤ maxLen)
    (hel : ∀ i : Fin xs.length, dR.M w base (fun k => (ok k ∧ k ≠ g) ∧ f k = i.val) xs[i] [enc i]) (hg : w.grownBy w' (some g)) (dk : List (Fin xs.length)) (hperm : dk.Perm (List.finRange xs.length))
    (hcur : w'.heap[g]? = some (.cells cur' 27 (0, 0))) (hcs : cur'.size = cap) (htake : cur'.toList.take xs.length = dk.map enc) :
    Kd.S dR 27 w' base ok (.slice (some ⟨g, 0, none⟩) xs.length cap) (dk.map (fun i => xs[i])) := by
  have hdl : dk.length = xs.length := by rw [hperm.length_eq]; simp
  have hdn : dk.Nodup := hperm.nodup_iff.2 (List.nodup_finRange _)
  have hstay : ∀ i : Fin xs.length, dR.M w' base (fun k => (ok k ∧ k ≠ g) ∧ f k = i.val) xs[i] [enc i] := fun i => M_grown (hel i) hg (fun k hk e => hk.1.2 (by injection e))
  obtain ⟨f', hrep⟩ := reps_tag (d := dR) (w := w') (base := base) (ok := fun k => ok k ∧ some k ≠ (Value.slice (some ⟨g, 0, none⟩) xs.length cap).ownBlock) (xs := dk.map (fun i => xs[i])) (inner := dk.map enc)
    (fun j k => (ok k ∧ some k ≠ (Value.slice (some ⟨g, 0, none⟩) xs.length cap).ownBlock) ∧ ∃ h : j < dk.length, f k = (dk[j]).val)
    (fun i j k h1 h2 => by
      obtain ⟨_, hi, e1⟩ := h1
      obtain ⟨_, hj, e2⟩ := h2
      exact nodup_inj hdn hi hj (Fin.ext (e1.symm.trans e2)))
    (fun j k h => h.1) (by simp [dR, Kd.slice])
    (fun j x hx => by
      rw [List.getElem?_map] at hx
      obtain ⟨i, hi, rfl⟩ := Option.map_eq_some_iff.1 hx
      obtain ⟨hj, rfl⟩ := List.getElem?_eq_some_iff.1 hi
      have hm := hstay dk[j]
      have hd : ((dk.map enc).drop (j * dR.sz)).take dR.sz = [enc dk[j]] := by
        rw [show dR.sz = 1 from rfl, Nat.mul_one, List.drop_eq_getElem_cons (by simpa using hj)]
        simp
      rw [hd]
      exact dR.M_mono (fun k hk => ⟨⟨hk.1.1, fun e => hk.1.2 (by simpa [Value.ownBlock] using e)⟩, hj, hk.2⟩) hm)
  refine ⟨f', fun k hk => by have : g = k := by simpa [Value.ownBlock] using hk
                             rw [← this]; exact hok, dk.map enc, ?_, hrep⟩
  rw [List.length_zipIdx, List.length_map, hdl]
  refine ⟨by rw [show (tag f' dR).sz = 1 from rfl, Nat.mul_one]; simp [hdl], .inr ⟨g, cap, cur', rfl, hbase, hcur, hlc, hcm, ?_, ?_⟩⟩
  · rw [show (tag f' dR).sz = 1 from rfl, Nat.mul_one]; exact hcs
  · rw [show (tag f' dR).sz = 1 from rfl, Nat.mul_one]; exact htake

theorem sort_rows (base : Nat) (ok : Nat → Prop) (v : Value) (xs : List (List Int)) (w : World) (h : Kd.S dR 27 w base ok v xs) (hnd : xs.Nodup) (hlen : xs.length < 4611686018427387904) :
    Calls Tryz.prog 47 #[v, .func (.func 45) #[] #[]] w fun e w' =>
      e = .returned (.tuple #[]) ∧ Kd.S dR 27 w' base ok v (xs.mergeSort leL) ∧ w.grownBy w' v.ownBlock := by
  by_cases hn : xs = []
  · subst hn
    obtain ⟨A, c, rfl⟩ := S_slice h
    refine (Tryz.slices_SortFunc_none (α := Nat) A c _ w).mono fun e w' ⟨he, hw⟩ => ⟨he, ?_⟩
    rw [hw]
    exact ⟨by simpa using h, rfl, rfl, rfl, Nat.le_refl _, fun _ _ _ => rfl⟩
  have hpos : 0 < xs.length := by cases xs with | nil => exact absurd rfl hn | cons => simp
  obtain ⟨f, hok, inner, ho, hr⟩ := h
  rw [List.length_zipIdx] at ho
  obtain ⟨hil, ho2⟩ := ho
  rcases ho2 with ⟨_, h0⟩ | ⟨g, cap, cur, rfl, hbase, hcur, hlc, hcm, hcs, htake⟩
  · omega
  rw [show (tag f dR).sz = 1 from rfl, Nat.mul_one] at *
  have hgw : g < w.heap.size := blk_lt hcur
  -- the elements by their numbers
  haveI : Inhabited (Fin xs.length) := ⟨⟨0, hpos⟩⟩
  let enc : Fin xs.length → Value := fun i => inner[i.val]'(by rw [hil]; exact i.isLt)
  let cf : Fin xs.length → Fin xs.length → Int := fun i j => cmpL xs[i] xs[j]
  let l0 : List (Fin xs.length) := List.finRange xs.length
  have henc : l0.map enc = inner := by
    apply List.ext_getElem
    · simp [l0, hil]
    · intro i h1 h2; simp [l0, enc]
  have hel : ∀ i : Fin xs.length, dR.M w base (fun k => ((ok k ∧ some k ≠ (Value.slice (some ⟨g, 0, none⟩) xs.length cap).ownBlock) ∧ f k = i.val)) xs[i] [enc i] := fun i => by
    have hz : xs.zipIdx[i.val]? = some (xs[i], i.val) := zip_at (List.getElem?_eq_getElem i.isLt)
    have hi := hr.2 i.val _ hz
    rw [Nat.mul_one, List.drop_eq_getElem_cons (by rw [hil]; exact i.isLt)] at hi
    exact hi
  have hone : OneCell enc := fun i => dR.K_one (dR.K_of_M (hel i)) _ (by simp)
  have hO : SWO (ltOf cf) := {
    irrefl := fun i => by simp [ltOf, cf, cmpL_self]
    trans := fun i j k h1 h2 => by simp only [ltOf, cf, decide_eq_true_eq] at *; exact cmpL_trans _ _ _ h1 h2
    ntrans := fun i j k h1 h2 => by
      have h1' : leL xs[j] xs[i] = true := by simpa [ltOf, cf, leL] using h1
      have h2' : leL xs[k] xs[j] = true := by simpa [ltOf, cf, leL] using h2
      have := leL_trans _ _ _ h2' h1'
      simpa [ltOf, cf, leL] using this }
  have hT : ∀ i j, ltOf cf i j = false → ltOf cf j i = false → i = j := fun i j h1 h2 => by
    have h1' : leL xs[j] xs[i] = true := by simpa [ltOf, cf, leL] using h1
    have h2' : leL xs[i] xs[j] = true := by simpa [ltOf, cf, leL] using h2
    have := leL_antisymm _ _ h2' h1'
    exact Fin.ext (nodup_inj hnd i.isLt j.isLt this)
  have eg : ∀ args w, (callFunc 45 args).run Tryz.prog w = .ok (.enter 45 args) w := enters_of Tryz.func45 (by kernel_rfl) rfl
  have hsz : l0.toArray.size = xs.length := by simp [l0]
  have hH : Holds enc w g 0 l0.toArray := holds_of_block hcur (by rw [henc, show l0.length = xs.length by simp [l0]]; exact htake)
  -- in the worlds that the sort passes through the rows lie as they did
  have hstay : ∀ (m : Nat) (os : Array Obj) (dk : Array (Fin xs.length)) (i : Fin xs.length), dR.M (sortWorld enc w g 0 m dk os) base (fun k => ((ok k ∧ some k ≠ (Value.slice (some ⟨g, 0, none⟩) xs.length cap).ownBlock) ∧ f k = i.val)) xs[i] [enc i] := fun m os dk i =>
    M_grown (hel i) (row := some g) (grownBy_sorted dk) (fun k hk => by simpa [Value.ownBlock] using hk.1.2)
  have hcmp : CmpLays1 Tryz.prog 45 #[] enc cf g 0 l0.toArray.size w := by
    intro m os dk hdk i j
    obtain ⟨A, c, e1, h1, c1⟩ := dR.K_of_M (hstay m os dk i)
    obtain ⟨A', c', e2, h2, c2⟩ := dR.K_of_M (hstay m os dk j)
    have e1' : enc i = .slice A xs[i].length c := by simpa using e1
    have e2' : enc j = .slice A' xs[j].length c' := by simpa using e2
    rw [e1', e2']
    exact (compare_calls A A' c c' xs[i] xs[j] _ c1 h1 c2 h2).mono fun e w' ⟨he, q, hq⟩ => ⟨he, q, #[], by rw [hq, grow_empty]⟩
  have hS := Tryz.slices_SortFunc_total enc hone cf hO 45 #[] g 0 cap l0.toArray w eg hcmp hH hgw (by rw [hsz]; exact hlen) hT
  rw [hsz] at hS
  refine hS.mono fun e w' ⟨he, n, os, hw⟩ => ⟨he, ?_⟩
  subst hw
  refine ⟨?_, grownBy_sorted _⟩
  -- the sorted numbers
  generalize hdk : (l0.toArray.toList.mergeSort fun x y => !ltOf cf y x) = dk
  have hmap : dk.map (fun i => xs[i]) = xs.mergeSort leL := by
    rw [← hdk]
    rw [List.map_mergeSort (r := fun x y => !ltOf cf y x) (s := leL) (f := fun i => xs[i]) (fun i _ j _ => rfl)]
    congr 1
    apply List.ext_getElem
    · simp [l0]
    · intro i h1 h2; simp [l0]
  have hperm : dk.Perm l0 := by rw [← hdk]; simpa using List.mergeSort_perm l0 _
  have hdl : dk.length = xs.length := by rw [hperm.length_eq]; simp [l0]
  have hdn : dk.Nodup := hperm.nodup_iff.2 (List.nodup_finRange _)
  rw [← hmap]
  obtain ⟨f', hrep⟩ := reps_tag (d := dR) (w := sortWorld enc w g 0 n dk.toArray os) (base := base) (ok := fun k => ok k ∧ some k ≠ (Value.slice (some ⟨g, 0, none⟩) xs.length cap).ownBlock) (xs := dk.map (fun i => xs[i])) (inner := dk.map enc)
    (fun j k => (ok k ∧ some k ≠ (Value.slice (some ⟨g, 0, none⟩) xs.length cap).ownBlock) ∧ ∃ h : j < dk.length, f k = (dk[j]).val)
    (fun i j k h1 h2 => by
      obtain ⟨_, hi, e1⟩ := h1
      obtain ⟨_, hj, e2⟩ := h2
      exact nodup_inj hdn hi hj (Fin.ext (e1.symm.trans e2)))
    (fun j k h => h.1) (by simp [dR, Kd.slice])
    (fun j x hx => by
      rw [List.getElem?_map] at hx
      obtain ⟨i, hi, rfl⟩ := Option.map_eq_some_iff.1 hx
      obtain ⟨hj, rfl⟩ := List.getElem?_eq_some_iff.1 hi
      have hm := hstay n os dk.toArray dk[j]
      have hd : ((dk.map enc).drop (j * dR.sz)).take dR.sz = [enc dk[j]] := by
        rw [show dR.sz = 1 from rfl, Nat.mul_one, List.drop_eq_getElem_cons (by simpa using hj)]
        simp
      rw [hd]
      exact dR.M_mono (fun k hk => ⟨hk.1, hj, hk.2⟩) hm)
  refine ⟨f', fun k hk => hok k hk, dk.map enc, ?_, hrep⟩
  rw [List.length_zipIdx, List.length_map, hdl]
  refine ⟨by simp [hdl, dR, Kd.slice, tag], .inr ⟨g, cap, _, rfl, hbase, heap_sorted _ hcur, hlc, hcm, ?_, ?_⟩⟩
  · rw [show (tag f' dR).sz = 1 from rfl, Nat.mul_one]; simp [putCells]; simpa using hcs
  · rw [show (tag f' dR).sz = 1 from rfl, Nat.mul_one]
    have := take_putCells (enc := enc) cur dk (by have : cur.size = cap * 1 := by simpa using hcs
                                                  omega)
    rwa [hdl] at this

end Go.Proofs.YtgemfighmnnmeaaGreat.Sorting

namespace Go.Proofs.YtgemfighmnnmeaaGreat.Crowds
open Go.RowKit Go.Proofs.YtgemfighmnnmeaaGreatW.PrintWords Go.Proofs.YtgemfighmnnmeaaGreatW.PrintWords.Kd Go.Proofs.YtgemfighmnnmeaaGreatW.PrintLast Go.Proofs.YtgemfighmnnmeaaGreatW.PrintMore Go.Proofs.YtgemfighmnnmeaaGreat.G Go.Proofs.YtgemfighmnnmeaaGreat.Fam Go.Proofs.YtgemfighmnnmeaaGreat.Bits Go.Proofs.YtgemfighmnnmeaaGreat.Sorting
set_option linter.unusedVariables false
set_option linter.unusedSimpArgs false

/-- What is asked of a predicate on sets below M: in every world in which all that lay in w lies untouched it hands back p of it. -/
def PredN (g : Nat) (pre lb : Array Value) (p : Nat → Bool) (M : Nat) (w : World) : Prop :=
  ∀ (W : World) (c : Nat), Below w.heap.size w W → c < M → Calls Tryz.prog g (pre ++ #[.int .u64 (c : Int)] ++ lb) W fun e w' => e = .returned (.bool (p c)) ∧ Below W.heap.size W w'
theorem PredN.later {g : Nat} {pre lb : Array Value} {p : Nat → Bool} {M : Nat} {w w1 : World} (h : PredN g pre lb p M w) (hb : Below w.heap.size w w1) : PredN g pre lb p M w1 :=
  fun W c hB hc => h W c (below_then hb hb.size hB) hc

theorem everybody_calls (n : Nat) (hn : n ≤ 7) (W : World) : Calls Tryz.prog 28 #[.int .i64 (n : Int)] W fun e w' => e = .returned (.int .u64 ((2 ^ n - 1 : Nat) : Int)) ∧ ∃ q, w' = W.drewN q :=
  (impl_everybody.calls (n : Int) _ W (everybody_is hn)).mono fun e w' ⟨he, hd⟩ => ⟨he, hd.out⟩
theorem group_calls (c : Nat) (hc : c < 128) (W : World) : Calls Tryz.prog 22 #[.int .u64 (c : Int)] W fun e w' => ∃ v, e = .returned v ∧ Kd.R (Kd.int .i64) 2 w' W.heap.size (fun _ => True) v (groupN c) ∧ Below W.heap.size W w' :=
  impl_crowd_group.calls 9 (c : Int) _ W (group_is hc (Nat.le_refl _))

theorem infoR : (Tryz.prog.info? 27).map (fun i => (i.zero, i.size, i.bytes)) = some (some (.slice none 0 0), 1, 24) := by kernel_rfl

theorem crowds_list (n : Nat) (p : Nat → Bool) (hn : n ≤ 7) : (((List.range (2 ^ n)).filter p).map groupN).Nodup := by
  have h7 : 2 ^ n ≤ 128 := by have := Nat.pow_le_pow_right (n := 2) (by omega) hn; simpa using this
  rw [List.nodup_iff_pairwise_ne, List.pairwise_map]
  refine List.Pairwise.imp_of_mem ?_ ((List.nodup_iff_pairwise_ne.1 (List.nodup_range (n := 2 ^ n))).filter p)
  intro a b ha hb hab e
  have ha' := List.mem_range.1 (List.mem_filter.1 ha).1
  have hb' := List.mem_range.1 (List.mem_filter.1 hb).1
  apply hab
  rw [← bitsN_groupN (c := a) (by omega), ← bitsN_groupN (c := b) (by omega), e]
theorem crowds_len (n : Nat) (p : Nat → Bool) (hn : n ≤ 7) : (((List.range (2 ^ n)).filter p).map groupN).length ≤ 128 := by
  have h7 : 2 ^ n ≤ 128 := by have := Nat.pow_le_pow_right (n := 2) (by omega) hn; simpa using this
  rw [List.length_map]
  have := List.length_filter_le p (List.range (2 ^ n))
  rw [List.length_range] at this
  omega

theorem S_empty {α : Type} (d : Kd α) (e : Nat) (w : World) (base : Nat) (hb : base ≤ w.heap.size) : Kd.S d e (w.alloc (.cells #[] e)) base (fun _ => True) (.slice (some ⟨w.heap.size, 0, none⟩) 0 0) [] :=
  ⟨fun _ => 0, fun _ _ => trivial, [], ⟨by simp, .inr ⟨w.heap.size, 0, #[], rfl, hb, heap_alloc_new w _, Nat.le_refl _, Nat.zero_le _, by simp, by simp⟩⟩, Reps.none _ _⟩
theorem filter_step (p : Nat → Bool) (c : Nat) : ((List.range (c + 1)).filter p).map groupN = ((List.range c).filter p).map groupN ++ (if p c = true then [groupN c] else []) := by
  rw [List.range_succ, List.filter_append, List.map_append]
  congr 1
  cases h : p c <;> simp [h]
theorem filter_len (p : Nat → Bool) (c : Nat) : (((List.range c).filter p).map groupN).length ≤ c := by
  rw [List.length_map]
  have := List.length_filter_le p (List.range c)
  rwa [List.length_range] at this

set_option maxHeartbeats 2000000 in
theorem crowds_calls (n : Nat) (hn : n ≤ 7) (g : Nat) (pre lb : Array Value) (eg : ∀ args w, (callFunc g args).run Tryz.prog w = .ok (.enter g args) w) (p : Nat → Bool) (w : World) (hp : PredN g pre lb p (2 ^ n) w) :
    Calls Tryz.prog 19 #[.int .i64 (n : Int), .func (.func g) pre lb] w fun e w' => ∃ v, e = .returned v ∧ Kd.S dR 27 w' w.heap.size (fun _ => True) v (crowdsN n p) ∧ Below w.heap.size w w' := by
  have h7 : 2 ^ n ≤ 128 := by have := Nat.pow_le_pow_right (n := 2) (by omega) hn; simpa using this
  have HE := fun W => everybody_calls n hn W
  have HP := Aside0.mk hp
  have HN := crowds_list n p hn
  have HL := crowds_len n p hn
  clear hp
  have HN' := Aside0.mk HN
  have HL' := Aside0.mk HL
  clear HN HL
  have hpos : 0 < 2 ^ n := Nat.two_pow_pos n
  unfold crowdsN
  generalize hM : 2 ^ n = M at *
  have HM := Aside0.mk hM
  clear hM
  have hm1 : ((M - 1 : Nat) : Int) = (M : Int) - 1 := by omega
  rw [hm1] at HE
  clear hm1
  go_enter Tryz.func19, Tryz.ntmps19
  go_wp2_with (fail)
  go_loopg [5, 6] M (fun gg v5 v6 wr => ∃ (c : Nat) (u : Value), c ≤ M ∧ M - c ≤ gg ∧ v6 = .int .u64 (c : Int) ∧ u = v5 ∧ Aside0 (Kd.S dR 27 wr w.heap.size (fun _ => True) u (((List.range c).filter p).map groupN)) ∧ Aside0 (Below w.heap.size w wr))
  case atStart => exact ⟨0, _, Nat.zero_le _, by omega, rfl, rfl, ⟨S_empty dR _ w _ (Nat.le_refl _)⟩, ⟨below_alloc (Below.refl _ _) _⟩⟩
  case round =>
    obtain ⟨c, u, hcM, hgg, rfl, rfl, HS, HB⟩ := hrel
    by_cases hlt : c < M
    · have hle : (c : Int) ≤ (M : Int) - 1 := by omega
      have hcall := fun W hb => HP.out W c hb hlt
      have hc128 : c < 128 := by omega
      cases hq : p c with
      | false =>
        rw [hq] at hcall
        have HQ := Aside0.mk hq
        clear hq
        go_wp2_with (first | (go_at_call 28; refine (HE _).mono ?_; rintro e w' ⟨rfl, q, rfl⟩) | (go_at_fn g; refine (hcall _ (pw_below_drewN HB.out _)).mono ?_; rintro e w' ⟨rfl, hb'⟩))
        go_roundg (M - (c + 1))
        case measure => omega
        case rel =>
          refine ⟨c + 1, _, by omega, by omega, by go_num, rfl, ⟨?_⟩, ⟨below_then (pw_below_drewN HB.out _) (pw_below_drewN HB.out _).size hb'⟩⟩
          rw [filter_step, HQ.out, if_neg (by simp), List.append_nil]
          exact S_below (S_drewN HS.out _) hb'
      | true =>
        rw [hq] at hcall
        have HQ := Aside0.mk hq
        clear hq
        have hut := Tryz.underlying24
        have hlen := filter_len p c
        generalize hL : ((List.range c).filter p).map groupN = L at *
        have HLL := Aside0.mk hL
        clear hL
        have Hlen := Aside0.mk hlen
        clear hlen
        go_wp2_with (first | (go_at_call 28; refine (HE _).mono ?_; rintro e w' ⟨rfl, q, rfl⟩) | (go_at_fn g; refine (hcall _ (pw_below_drewN HB.out _)).mono ?_; rintro e w1 ⟨rfl, hb1⟩; have HB1 := Aside0.mk (below_then (pw_below_drewN HB.out _) (pw_below_drewN HB.out _).size hb1); have HS1 := Aside0.mk (S_below (S_drewN HS.out _) hb1); clear hb1) | (go_at_call 22; refine (group_calls c hc128 _).mono ?_; rintro e w2 ⟨v2, rfl, hr2, hb2⟩; obtain ⟨A2, c2, rfl⟩ := R_slice hr2; have HR2 := Aside0.mk hr2; have HB2 := Aside0.mk hb2; clear hr2 hb2) | (at_builtin; refine S_append dR (w0 := w) (W := w2) w.heap.size rfl (.tmp 17) (.tmp 20) 24 27 (.slice none 0 0) 24 rfl hut infoR rfl (by decide) (by decide) u L (groupN c) [.slice A2 (groupN c).length c2] (fun _ => True) (fun k => w1.heap.size ≤ k) rfl rfl ?h1 ?h2 ?h3 ?h4 ?h5 ?h6 ?h7 ?_; (case h1 => exact ⟨_, rfl, R_mono (R_lower (R_bound HR2.out) HB1.out.size) (fun k hk => hk.2.1)⟩); (case h2 => exact fun k hk => ⟨trivial, fun e => by have := S_lt HS1.out k e.symm; omega⟩); (case h3 => exact fun _ _ => trivial); (case h4 => exact S_mono (S_old HS1.out HB2.out) (fun k hk => ⟨trivial, by have := hk.2; omega⟩)); (case h5 => exact below_then HB1.out HB1.out.size HB2.out); (case h6 => exact Nat.le_trans HB1.out.size HB2.out.size); (case h7 => have := Hlen.out; omega); intro v3 w3 hS3 hB3 hg3 hat3; have HS3 := Aside0.mk hS3; have HB3 := Aside0.mk hB3; clear hS3 hB3 hg3 hat3))
        go_roundg (M - (c + 1))
        case measure => omega
        case rel =>
          refine ⟨c + 1, _, by omega, by omega, by go_num, rfl, ⟨?_⟩, HB3⟩
          rw [filter_step, HQ.out, if_pos rfl, HLL.out]
          exact HS3.out
    · have hle : ¬ (c : Int) ≤ (M : Int) - 1 := by omega
      obtain rfl : c = M := by omega
      have hS := fun q => sort_rows w.heap.size (fun _ => True) u _ (wr.drewN q) (S_drewN HS.out q) HN'.out (by have := HL'.out; omega)
      go_wp2_with (first | (go_at_call 28; refine (HE _).mono ?_; rintro e w' ⟨rfl, q, rfl⟩) | (go_at_call 47; refine (hS _).mono ?_; rintro e w' ⟨rfl, hS', hg'⟩))
      go_ret
      exact ⟨_, rfl, hS', pw_below_grown (pw_below_drewN HB.out _) _ (pw_below_drewN HB.out _).size hg' (fun k hk => S_base HS.out k hk)⟩

end Go.Proofs.YtgemfighmnnmeaaGreat.Crowds

namespace Go.Proofs.YtgemfighmnnmeaaGreat.FamOf
open Go.RowKit Go.Proofs.YtgemfighmnnmeaaGreatW.PrintWords Go.Proofs.YtgemfighmnnmeaaGreatW.PrintWords.Kd Go.Proofs.YtgemfighmnnmeaaGreatW.PrintLast Go.Proofs.YtgemfighmnnmeaaGreatW.PrintMore Go.Proofs.YtgemfighmnnmeaaGreat.G Go.Proofs.YtgemfighmnnmeaaGreat.Fam Go.Proofs.YtgemfighmnnmeaaGreat.Bits Go.Proofs.YtgemfighmnnmeaaGreat.Sorting Go.Proofs.YtgemfighmnnmeaaGreat.Crowds
set_option linter.unusedVariables false
set_option linter.unusedSimpArgs false

theorem has_calls (c h : Nat) (hc : c < 128) (hh : h < 7) (W : World) : Calls Tryz.prog 32 #[.int .u64 (c : Int), .int .i64 (h : Int)] W fun e w' => e = .returned (.bool (c.testBit h)) ∧ ∃ q, w' = W.drewN q :=
  (impl_crowd_has.calls (c : Int) (h : Int) _ W (has_is hc hh)).mono fun e w' ⟨he, hd⟩ => ⟨he, hd.out⟩

/-- Sets without one of their holders. -/
theorem without_all : ∀ c : Fin 128, ∀ h : Fin 7, c.val.testBit h.val = true → Go.bits .andNot .u64 ((c.val : Nat) : Int) (IntKind.u64.wrap (2 ^ h.val)) = ((c.val ^^^ 1 <<< h.val : Nat) : Int) := by decide +kernel
theorem without_is {c h : Nat} (hc : c < 128) (hh : h < 7) (ht : c.testBit h = true) : Go.bits .andNot .u64 (c : Int) (IntKind.u64.wrap (2 ^ h)) = ((c ^^^ 1 <<< h : Nat) : Int) := without_all ⟨c, hc⟩ ⟨h, hh⟩ ht
theorem without_lt {n c h : Nat} (hc : c < 2 ^ n) (ht : c.testBit h = true) : c ^^^ 1 <<< h < 2 ^ n := by
  apply Nat.xor_lt_two_pow hc
  rw [Nat.one_shiftLeft]
  apply Nat.pow_lt_pow_right (by omega)
  rcases Nat.lt_or_ge h n with h1 | h1
  · exact h1
  · have := Nat.testBit_lt_two_pow (x := c) (i := h) (Nat.lt_of_lt_of_le hc (Nat.pow_le_pow_right (by omega) h1))
    rw [this] at ht; cases ht

theorem keepS {w W : World} {a : Addr} {v : Value} (h : w.cell? a = some v) (hb : Below w.heap.size w W) : W.cell? a = some v ∧ Below w.heap.size w W := ⟨pw_cell_below hb h, hb⟩

set_option maxHeartbeats 2000000 in
theorem least_calls (n : Nat) (hn : n ≤ 7) (g : Nat) (pre lb : Array Value) (eg : ∀ args w, (callFunc g args).run Tryz.prog w = .ok (.enter g args) w) (p : Nat → Bool) (B1 B2 : Nat) (w : World) (hp : PredN g pre lb p (2 ^ n) w)
    (h1 : w.cell? ⟨B1, 0, none⟩ = some (.func (.func g) pre lb)) (h2 : w.cell? ⟨B2, 0, none⟩ = some (.int .i64 (n : Int))) (c : Nat) (hc : c < 2 ^ n) (W : World) (hb : Below w.heap.size w W) :
    Calls Tryz.prog 50 #[.int .u64 (c : Int), .pointer (some ⟨B1, 0, none⟩), .pointer (some ⟨B2, 0, none⟩)] W fun e w' => e = .returned (.bool (leastN n p c)) ∧ Below w.heap.size w w' := by
  have h7 : 2 ^ n ≤ 128 := by have := Nat.pow_le_pow_right (n := 2) (by omega) hn; simpa using this
  have hc128 : c < 128 := by omega
  have HP := Aside0.mk hp
  have HB := Aside0.mk hb
  have H1 := Aside0.mk h1
  have H2 := Aside0.mk h2
  have HC := Aside0.mk hc
  clear hp hb h1 h2 hc h7
  cases hq : p c with
  | false =>
    have hcall := HP.out W c HB.out HC.out
    rw [hq] at hcall
    have hc1 := pw_cell_below HB.out H1.out
    have HQ := Aside0.mk hq
    clear hq
    go_enter Tryz.func50, Tryz.ntmps50
    go_wp2_with (go_at_fn g; refine hcall.mono ?_; rintro e w' ⟨rfl, hb'⟩)
    go_ret
    refine ⟨?_, below_then HB.out HB.out.size hb'⟩
    rw [show leastN n p c = false from by unfold leastN; rw [HQ.out]; rfl]
    rfl
  | true =>
    have hcall := HP.out W c HB.out HC.out
    rw [hq] at hcall
    have hc1 := pw_cell_below HB.out H1.out
    have HQ := Aside0.mk hq
    clear hq
    go_enter Tryz.func50, Tryz.ntmps50
    go_wp2_with (first | (go_at_fn g; refine hcall.mono ?_; rintro e w1 ⟨rfl, hb1⟩; have HB1 := Aside0.mk (below_then HB.out HB.out.size hb1); have hc2 := pw_cell_below HB1.out H2.out; clear hb1))
    go_loopg [5, 11] n (fun gg _ v11 wr => ∃ h : Nat, h ≤ n ∧ n - h ≤ gg ∧ v11 = .int .i64 (h : Int) ∧ Aside0 (Below w.heap.size w wr) ∧ Aside0 (∀ j, j < h → (!(c.testBit j && p (c ^^^ 1 <<< j))) = true))
    case atStart => exact ⟨0, Nat.zero_le _, by omega, rfl, HB1, ⟨fun j hj => absurd hj (Nat.not_lt_zero _)⟩⟩
    case round =>
      obtain ⟨h, hhn, hgg, rfl, HB2, HA⟩ := hrel
      by_cases hlt : h < n
      · have hltz : (h : Int) < (n : Int) := by omega
        have HH := fun W => has_calls c h hc128 (by omega) W
        cases ht : c.testBit h with
        | false =>
          rw [ht] at HH
          have HT := Aside0.mk ht
          clear ht
          go_wp2
          go_quiet (first | (go_at_call 32; exact Calls.quiet_of (HH _)))
          go_wp2
          go_roundg (n - (h + 1))
          case measure => omega
          case rel =>
            refine ⟨h + 1, by omega, by omega, by go_num, ⟨by repeat (first | exact HB2.out | apply pw_below_drewN)⟩, ⟨fun j hj => ?_⟩⟩
            by_cases e : j = h
            · subst e; rw [HT.out]; rfl
            · exact HA.out j (by omega)
        | true =>
          have hw := without_is hc128 (show h < 7 by omega) ht
          have hcall2 := fun W hb => HP.out W (c ^^^ 1 <<< h) hb (without_lt HC.out ht)
          rw [ht] at HH
          have HT := Aside0.mk ht
          clear ht
          generalize hd : c ^^^ 1 <<< h = d at *
          have HD := Aside0.mk hd
          clear hd
          have hc3 := pw_cell_below HB2.out H1.out
          have hB2 := HB2.out
          cases hq2 : p d with
          | true =>
            rw [hq2] at hcall2
            have HQ2 := Aside0.mk hq2
            clear hq2
            go_wp2
            go_region_held3 (fun W => W.cell? ⟨B1, 0, none⟩ = some (.func (.func g) pre lb) ∧ Below w.heap.size w W) ((refine keepS H1.out ?_; repeat (first | assumption | apply below_drew | apply pw_below_drewN))) (first | (go_at_call 32; refine (HH _).mono ?_; rintro e w' ⟨rfl, q, rfl⟩) | (go_at_fn g; refine (hcall2 _ ?_).mono ?_; (repeat (first | assumption | apply below_drew | apply pw_below_drewN)); rintro e w9 ⟨rfl, hb9⟩; have HB9 := below_then (by repeat (first | assumption | apply below_drew | apply pw_below_drewN)) (by have := hB2.size; simp; omega) hb9))
            go_wp2
            go_ret
            refine ⟨?_, HB9⟩
            have hf : ((List.range n).all fun h => !(c.testBit h && p (c ^^^ 1 <<< h))) = false := by
              rw [List.all_eq_false]
              exact ⟨h, List.mem_range.2 hlt, by rw [HT.out, HD.out, HQ2.out]; simp⟩
            rw [show leastN n p c = false from by unfold leastN; rw [hf, Bool.and_false]]
            rfl
          | false =>
            rw [hq2] at hcall2
            have HQ2 := Aside0.mk hq2
            clear hq2
            go_wp2
            go_region_held3 (fun W => W.cell? ⟨B1, 0, none⟩ = some (.func (.func g) pre lb) ∧ Below w.heap.size w W) ((refine keepS H1.out ?_; repeat (first | assumption | apply below_drew | apply pw_below_drewN))) (first | (go_at_call 32; refine (HH _).mono ?_; rintro e w' ⟨rfl, q, rfl⟩) | (go_at_fn g; refine (hcall2 _ ?_).mono ?_; (repeat (first | assumption | apply below_drew | apply pw_below_drewN)); rintro e w9 ⟨rfl, hb9⟩; have HB9 := below_then (by repeat (first | assumption | apply below_drew | apply pw_below_drewN)) (by have := hB2.size; simp; omega) hb9))
            go_wp2
            go_roundg (n - (h + 1))
            case measure => omega
            case rel =>
              refine ⟨h + 1, by omega, by omega, by go_num, ⟨HB9⟩, ⟨fun j hj => ?_⟩⟩
              by_cases e : j = h
              · subst e; rw [HT.out, HD.out, HQ2.out]; rfl
              · exact HA.out j (by omega)
      · have hltz : ¬ (h : Int) < (n : Int) := by omega
        obtain rfl : h = n := by omega
        go_wp2
        go_ret
        refine ⟨?_, HB2.out⟩
        have hf : ((List.range h).all fun j => !(c.testBit j && p (c ^^^ 1 <<< j))) = true := by
          rw [List.all_eq_true]
          exact fun j hj => HA.out j (List.mem_range.1 hj)
        rw [show leastN h p c = true from by unfold leastN; rw [hf, HQ.out]; rfl]
        rfl

set_option maxHeartbeats 2000000 in
theorem familyOf_calls (n : Nat) (hn : n ≤ 7) (g : Nat) (pre lb : Array Value) (eg : ∀ args w, (callFunc g args).run Tryz.prog w = .ok (.enter g args) w) (p : Nat → Bool) (w : World) (hp : PredN g pre lb p (2 ^ n) w) :
    Calls Tryz.prog 26 #[.int .i64 (n : Int), .func (.func g) pre lb] w fun e w' => ∃ v, e = .returned (.agg #[.int .i64 (n : Int), v]) ∧ Kd.S dR 27 w' w.heap.size (fun _ => True) v (famN n p) ∧ Below w.heap.size w w' := by
  have eg2 : ∀ args w, (callFunc 50 args).run Tryz.prog w = .ok (.enter 50 args) w := enters_of Tryz.func50 (by kernel_rfl) rfl
  have HP := Aside0.mk hp
  clear hp
  unfold famN
  go_enter Tryz.func26, Tryz.ntmps26
  go_wp2_with (fail)
  obtain ⟨W1, hW1⟩ : ∃ W1 : World, W1 = (w.alloc (.cells #[.int .i64 (n : Int)] 2)).alloc (.cells #[.func (.func g) pre lb] 50) := ⟨_, rfl⟩
  rw [← hW1]
  have hs1 : W1.heap.size = w.heap.size + 1 + 1 := by rw [hW1]; simp
  rw [← hs1]
  have hb1 : Below w.heap.size w W1 := by rw [hW1]; exact below_alloc (below_alloc (Below.refl _ _) _) _
  have c1 : W1.cell? ⟨w.heap.size, 0, none⟩ = some (.int .i64 (n : Int)) := by rw [hW1]; exact blk_cell (cs := #[.int .i64 (n : Int)]) (blk_alloc (blk_new w _) _) 0
  have c2 : W1.cell? ⟨w.heap.size + 1, 0, none⟩ = some (.func (.func g) pre lb) := by rw [hW1]; exact blk_cell (cs := #[.func (.func g) pre lb]) (by simpa using blk_new (w.alloc (.cells #[.int .i64 (n : Int)] 2)) (.cells #[.func (.func g) pre lb] 50)) 0
  clear hW1
  have HB1 := Aside0.mk hb1
  have C1 := Aside0.mk c1
  have C2 := Aside0.mk c2
  have HS1 := Aside0.mk hs1
  clear hb1 c1 c2 hs1
  generalize hB1 : w.heap.size + 1 = b1 at *
  generalize hB0 : w.heap.size = b0 at *
  have hb0W : b0 ≤ W1.heap.size := by rw [← hB0]; exact HB1.out.size
  have HBW := Aside0.mk hb0W
  clear hb0W
  obtain ⟨W0, hW0⟩ : ∃ W0 : World, W0 = W1.alloc (.cells #[.int .i64 0, .slice none 0 0] 26) := ⟨_, rfl⟩
  rw [← hW0]
  have hb01 : Below W1.heap.size W1 W0 := by rw [hW0]; exact below_alloc (Below.refl _ _) _
  have b3 : W0.heap[W1.heap.size]? = some (.cells #[.int .i64 0, .slice none 0 0] 26 (0, 0)) := by rw [hW0]; exact blk_new W1 _
  clear hW0
  have B3 := Aside0.mk b3
  have HB01 := Aside0.mk hb01
  clear b3 hb01
  generalize hB2 : W1.heap.size = b2 at *
  have HE0 := Aside0.mk hB0
  have HE2 := Aside0.mk hB2
  clear hB0 hB1 hB2
  have hcr : ∀ (W : World) (hb : Below W0.heap.size W0 W), Calls Tryz.prog 19 #[.int .i64 (n : Int), .func (.func 50) #[] #[.pointer (some ⟨b1, 0, none⟩), .pointer (some ⟨b0, 0, none⟩)]] W fun e w' => ∃ v, e = .returned v ∧ Kd.S dR 27 w' b0 (fun k => W0.heap.size ≤ k) v (crowdsN n (leastN n p)) ∧ Below W0.heap.size W0 w' ∧ Below b2 W1 w' := fun W hb => by
    obtain rfl := HE0.out
    obtain rfl := HE2.out
    have hw1 : ∀ W', Below W.heap.size W W' → Below W1.heap.size W1 W' := fun W' hb' => below_then HB01.out HB01.out.size (below_then hb hb.size hb')
    exact (crowds_calls n hn 50 #[] #[.pointer (some ⟨b1, 0, none⟩), .pointer (some ⟨w.heap.size, 0, none⟩)] eg2 (leastN n p) W (fun W' c hb' hc =>
      least_calls n hn g pre lb eg p b1 w.heap.size W' (HP.out.later (below_then HB1.out HB1.out.size (hw1 W' hb'))) (pw_cell_below (hw1 W' hb') C2.out) (pw_cell_below (hw1 W' hb') C1.out) c hc W' (Below.refl _ _))).mono
      fun e w' ⟨v, he, hs, hb'⟩ => ⟨v, he, S_mono (S_lower (S_bound hs) (Nat.le_trans HBW.out (Nat.le_trans HB01.out.size hb.size))) (fun k hk => Nat.le_trans hb.size hk.2.1), below_then hb hb.size hb', hw1 w' hb'⟩
  obtain rfl := HE2.out
  go_region_held3 (fun W => W.cell? ⟨b0, 0, none⟩ = some (.int .i64 (n : Int)) ∧ Below W1.heap.size W1 W) ((refine keepS C1.out ?_; repeat (first | exact HB01.out | assumption | apply below_drew | apply pw_below_drewN | refine below_set ?_ (Nat.le_refl _)))) (first | (go_at_call 19; refine (hcr _ ?_).mono ?_; (repeat (first | exact Below.refl _ _ | assumption | apply below_drew | apply pw_below_drewN)); rintro e w9 ⟨v9, rfl, hs9, hb9, hb91⟩; have HZ9 := Aside0.mk (blk_below B3.out hb9); have z0 : w9.cell? ⟨W1.heap.size, 0, none⟩ = some (.int .i64 0) := (blk_cell HZ9.out 0).trans rfl; have z1 : w9.cell? ⟨W1.heap.size, 1, none⟩ = some (.slice none 0 0) := (blk_cell HZ9.out 1).trans rfl; have f0 := blk_frozen HZ9.out 0; have f1 := blk_frozen HZ9.out 1; obtain ⟨A9, c9, rfl⟩ := S_slice hs9))
  go_wp2
  have ht : ∀ q, q ∈ 27 :: dR.E → q ≠ 26 := by intro q hq; simp [dR, Kd.slice, Kd.int, Kd.scalar] at hq; omega
  have hz2 := blk_set HZ9.out 0 (.int .i64 (n : Int))
  have hz3 := blk_set hz2 1 (.slice A9 (crowdsN n (leastN n p)).length c9)
  refine bodyPost_ret (v := .agg #[.int .i64 (n : Int), .slice A9 (crowdsN n (leastN n p)).length c9]) ?_ rfl ⟨_, rfl, ?_, ?_⟩
  · have e0 := (blk_cell hz3 0)
    have e1 := (blk_cell hz3 1)
    have e0' : ((w9.setCell ⟨W1.heap.size, 0, none⟩ (.int .i64 (n : Int))).setCell ⟨W1.heap.size, 1, none⟩ (.slice A9 (crowdsN n (leastN n p)).length c9)).cell? ⟨W1.heap.size, 0, none⟩ = some (.int .i64 (n : Int)) := e0.trans (by simp)
    have e1' : ((w9.setCell ⟨W1.heap.size, 0, none⟩ (.int .i64 (n : Int))).setCell ⟨W1.heap.size, 1, none⟩ (.slice A9 (crowdsN n (leastN n p)).length c9)).cell? ⟨W1.heap.size, 1, none⟩ = some (.slice A9 (crowdsN n (leastN n p)).length c9) := e1.trans (by simp)
    clear e0 e1
    have hu := Tryz.underlying26
    simp [results, Tryz.results26, go_sem, e0', e1']
  · obtain rfl := HE0.out
    exact S_mono (S_set (S_set hs9 HZ9.out ht 0 _) hz2 ht 1 _) (fun _ _ => trivial)
  · obtain rfl := HE0.out
    exact below_set (below_set (below_then HB1.out HB1.out.size hb91) HBW.out) HBW.out

end Go.Proofs.YtgemfighmnnmeaaGreat.FamOf

namespace Go.Proofs.YtgemfighmnnmeaaGreat.Ops
open Go.RowKit Go.Proofs.YtgemfighmnnmeaaGreatW.PrintWords Go.Proofs.YtgemfighmnnmeaaGreatW.PrintWords.Kd Go.Proofs.YtgemfighmnnmeaaGreatW.PrintLast Go.Proofs.YtgemfighmnnmeaaGreatW.PrintMore Go.Proofs.YtgemfighmnnmeaaGreat.G Go.Proofs.YtgemfighmnnmeaaGreat.Fam Go.Proofs.YtgemfighmnnmeaaGreat.Bits Go.Proofs.YtgemfighmnnmeaaGreat.Valid Go.Proofs.YtgemfighmnnmeaaGreat.Opens Go.Proofs.YtgemfighmnnmeaaGreat.Idx Go.Proofs.YtgemfighmnnmeaaGreat.Sorting Go.Proofs.YtgemfighmnnmeaaGreat.Crowds Go.Proofs.YtgemfighmnnmeaaGreat.FamOf
set_option linter.unusedVariables false
set_option linter.unusedSimpArgs false

theorem lens_of {w : World} {A : Option Addr} {n : Nat} {gs : List (List Int)} (h : dR.C w A n gs) : gs.length ≤ 9223372036854775807 ∧ ∀ g ∈ gs, g.length ≤ 9223372036854775807 := by
  refine ⟨by rw [h.1]; exact h.2.1, fun g hg => ?_⟩
  obtain ⟨i, hi, rfl⟩ := List.mem_iff_getElem.1 hg
  obtain ⟨ad, v, _, _, A', c', _, _, hC⟩ := elem_at (d := dR) rfl h i hi
  exact hC.2.1
theorem within_calls (a b c : Int) (W : World) : Calls Tryz.prog 34 #[.int .i64 a, .int .i64 b, .int .i64 c] W fun e w' => e = .returned (.bool (decide (b ≤ a ∧ a ≤ c))) ∧ ∃ q, w' = W.drewN q :=
  (impl_within.calls a b c _ W (within_is a b c)).mono fun e w' ⟨he, hd⟩ => ⟨he, hd.out⟩
theorem valid_calls (n : Int) (A : Option Addr) (cap : Nat) (gs : List (List Int)) (w : World) (hC : dR.C w A gs.length gs) (hcap : gs.length ≤ cap) :
    Calls Tryz.prog 18 #[.agg #[.int .i64 n, .slice A gs.length cap]] w fun e w' => e = .returned (.bool (decide (ValidF n gs))) ∧ Below w.heap.size w w' := by
  obtain ⟨k, hk⟩ := (valid_is n gs (lens_of hC).1 (lens_of hC).2).rounds
  exact impl_ValidFamily.calls k n A cap gs _ w hC hcap hk
theorem smalls_of {n : Int} {gs : List (List Int)} (h : ValidF n gs) : Smalls gs := fun g hg x hx => by
  have := (h.2.1 g hg).1 x hx
  have := h.1
  omega

/-! ### the dual -/
def dualP (n : Nat) (gs : List (List Int)) (c : Nat) : Bool := !openN gs (2 ^ n - 1 - c)
theorem rest_all : ∀ n : Fin 8, ∀ c : Fin 128, c.val < 2 ^ n.val → Go.bits .andNot .u64 ((2 ^ n.val - 1 : Nat) : Int) ((c.val : Nat) : Int) = ((2 ^ n.val - 1 - c.val : Nat) : Int) := by decide +kernel
theorem rest_is {n c : Nat} (hn : n ≤ 7) (hc : c < 2 ^ n) : Go.bits .andNot .u64 ((2 ^ n - 1 : Nat) : Int) (c : Int) = ((2 ^ n - 1 - c : Nat) : Int) := by
  have h7 : 2 ^ n ≤ 128 := by have := Nat.pow_le_pow_right (n := 2) (by omega) hn; simpa using this
  exact rest_all ⟨n, by omega⟩ ⟨c, by omega⟩ hc

/-- A family boxed in a block. -/
def FamBox (W : World) (g : Nat) (n : Int) (A : Option Addr) (cap : Nat) (gs : List (List Int)) : Prop :=
  W.cell? ⟨g, 0, none⟩ = some (.int .i64 n) ∧ W.cell? ⟨g, 1, none⟩ = some (.slice A gs.length cap) ∧ dR.C W A gs.length gs
theorem FamBox.later {W W' : World} {g : Nat} {n : Int} {A : Option Addr} {cap : Nat} {gs : List (List Int)} (h : FamBox W g n A cap gs) (hb : Below W.heap.size W W') : FamBox W' g n A cap gs :=
  ⟨pw_cell_below hb h.1, pw_cell_below hb h.2.1, C_below h.2.2 hb⟩
theorem FamBox.new (w : World) (n : Int) (A : Option Addr) (cap : Nat) (gs : List (List Int)) (t : TypeId) (hC : dR.C w A gs.length gs) : FamBox (w.alloc (.cells #[.int .i64 n, .slice A gs.length cap] t)) w.heap.size n A cap gs :=
  ⟨(blk_cell (blk_new w _) 0).trans rfl, (blk_cell (blk_new w _) 1).trans rfl, Kd.C_alloc hC _⟩

theorem blk_at {W : World} {o : Obj} {k : Nat} (hk : k = W.heap.size) : (W.alloc o).heap[k]? = some o := by subst hk; exact blk_new W o
/-- The result's variable, written. -/
theorem put0 {w1 : World} {r : Nat} {x y a b : Value} {t : TypeId} (hz : w1.heap[r]? = some (.cells #[x, y] t (0, 0))) : ((w1.setCell ⟨r, 0, none⟩ a).setCell ⟨r, 1, none⟩ b).cell? ⟨r, 0, none⟩ = some a :=
  (blk_cell (blk_set (blk_set hz 0 a) 1 b) 0).trans (by simp)
theorem put1 {w1 : World} {r : Nat} {x y a b : Value} {t : TypeId} (hz : w1.heap[r]? = some (.cells #[x, y] t (0, 0))) : ((w1.setCell ⟨r, 0, none⟩ a).setCell ⟨r, 1, none⟩ b).cell? ⟨r, 1, none⟩ = some b :=
  (blk_cell (blk_set (blk_set hz 0 a) 1 b) 1).trans (by simp)
theorem famTypes : ∀ q, q ∈ 27 :: dR.E → q ≠ 26 := by intro q hq; simp [dR, Kd.slice, Kd.int, Kd.scalar] at hq; omega
theorem S_put {w1 : World} {r base : Nat} {x y a b v : Value} {ok : Nat → Prop} {xs : List (List Int)} (hz : w1.heap[r]? = some (.cells #[x, y] 26 (0, 0))) (hs : Kd.S dR 27 w1 base ok v xs) : Kd.S dR 27 ((w1.setCell ⟨r, 0, none⟩ a).setCell ⟨r, 1, none⟩ b) base ok v xs :=
  S_set (S_set hs hz famTypes 0 a) (blk_set hz 0 a) famTypes 1 b

/-- A family and a code, as they are handed back. -/
def FamRes (w : World) (n : Int) (gs : List (List Int)) (code : Int) (e : Ending) (w' : World) : Prop :=
  ∃ v, e = .returned (.tuple #[.agg #[.int .i64 n, v], .int .i64 code]) ∧ Kd.S dR 27 w' w.heap.size (fun _ => True) v gs ∧ Below w.heap.size w w'


end Go.Proofs.YtgemfighmnnmeaaGreat.Ops
