/- Contract of slices.SortFunc at [][]int64 with slices.Compare: a row of the call's own whose rows differ ends in lexicographic order. -/
import Derived.Test.YtmeaffkgnmgmeaaShelf
import Derived.Test.YtmeaffkgnmgmeaaGb
import Derived.Test.YtmeaffkgnmgmeaaBits
namespace Go.Proofs.Ytmeaffkgnmgmeaa.Sorting
open Go.RowKit Go.Lib Go.Sort Go.Proofs Go.Proofs.YtmeaffkgnmgmeaaW.PrintWords Go.Proofs.YtmeaffkgnmgmeaaW.PrintWords.Kd Go.Proofs.YtmeaffkgnmgmeaaW.PrintLast Go.Proofs.YtmeaffkgnmgmeaaW.PrintMore Go.Proofs.Ytmeaffkgnmgmeaa.G Go.Proofs.Ytmeaffkgnmgmeaa.Fam Go.Proofs.Ytmeaffkgnmgmeaa.Bits
set_option linter.unusedVariables false
set_option linter.unusedSimpArgs false

section
variable {α : Type} [Inhabited α]
theorem holds_of_block {enc : α → Value} {w : World} {g : Nat} {cur : Array Value} {e : TypeId} {ss : List α} (hb : w.heap[g]? = some (.cells cur e (0, 0))) (ht : cur.toList.take ss.length = ss.map enc) : Holds enc w g 0 ss.toArray := by
  intro j hj
  have hj' : j < ss.length := by simpa using hj
  refine ⟨?_, by simp [World.frozen?, hb]⟩
  have h1 : (cur.toList.take ss.length)[j]? = (ss.map enc)[j]? := by rw [ht]
  rw [List.getElem?_take_of_lt hj'] at h1
  simp only [World.cell?, hb, Nat.zero_add]
  simp only [Option.isSome_none, Bool.false_eq_true, if_false]
  rw [← Array.getElem?_toList, h1]
  simp [hj']
theorem heap_sorted {enc : α → Value} {w : World} {g n : Nat} {os : Array Obj} {cur : Array Value} {e : TypeId} {fr : Nat × Nat} (d : Array α) (hb : w.heap[g]? = some (.cells cur e fr)) :
    (sortWorld enc w g 0 n d os).heap[g]? = some (.cells (putCells enc 0 d cur) e fr) := by
  have hg : g < w.heap.size := (Array.getElem?_eq_some_iff.1 hb).1
  unfold sortWorld
  rw [heap_grow_old _ _ (by simpa using hg)]
  simp [putRow, mapBlock, Sort.ahead, Array.getElem?_modify, hb, onCells]
theorem grownBy_sorted {enc : α → Value} {w : World} {g n : Nat} {os : Array Obj} (d : Array α) : w.grownBy (sortWorld enc w g 0 n d os) (some g) := by
  unfold sortWorld
  refine ⟨rfl, rfl, rfl, by simp, fun k hk hne => ?_⟩
  rw [heap_grow_old _ _ (by simpa using hk)]
  have : g ≠ k := fun e => hne (by rw [e])
  simp [putRow, mapBlock, Sort.ahead, Array.getElem?_modify, this]
theorem take_putCells {enc : α → Value} (cur : Array Value) (ts : List α) (h : ts.length ≤ cur.size) : (putCells enc 0 ts.toArray cur).toList.take ts.length = ts.map enc := by
  apply List.ext_getElem?
  intro j
  by_cases hj : j < ts.length
  · rw [List.getElem?_take_of_lt hj, Array.getElem?_toList]
    simp [putCells, hj, show j < cur.size by omega]
  · rw [List.getElem?_take_eq_none (by omega), List.getElem?_eq_none (by simp; omega)]
end

theorem nodup_inj {β : Type} {l : List β} (h : l.Nodup) {i j : Nat} (hi : i < l.length) (hj : j < l.length) (e : l[i] = l[j]) : i = j := by
  have hp := List.pairwise_iff_getElem.1 h
  rcases Nat.lt_trichotomy i j with hij | hij | hij
  · exact absurd e (hp i j hi hj hij)
  · exact hij
  · exact absurd e.symm (hp j i hj hi hij)

/-- The comparison of two rows in any world in which they still lie. -/
theorem compare_calls (A A' : Option Addr) (c c' : Nat) (a b : List Int) (W : World) (ha : Kd.C (Kd.int .i64) W A a.length a) (hac : a.length ≤ c) (hb : Kd.C (Kd.int .i64) W A' b.length b) (hbc : b.length ≤ c') :
    Calls Try.prog 104 #[.slice A a.length c, .slice A' b.length c'] W fun e w' => e = .returned (.int .i64 (cmpL a b)) ∧ ∃ q, w' = W.drewN q :=
  (slices_Compare_int64_int64.calls (a.length + 1) A c a A' c' b _ W ha hac hb hbc (compare_is a b _ ha.2.1 (by omega))).mono fun e w' ⟨he, hd⟩ => ⟨he, hd.out⟩

/-- Rows of rows of numbers. -/
abbrev dR : Kd (List Int) := Kd.slice 2 (Kd.int .i64)

/-- A row of rows that is not empty, its elements by their numbers. -/
theorem S_numbers {base : Nat} {ok : Nat → Prop} {v : Value} {xs : List (List Int)} {w : World} (h : Kd.S dR 30 w base ok v xs) (hpos : 0 < xs.length) :
    ∃ (g cap : Nat) (cur : Array Value) (enc : Fin xs.length → Value) (f : Nat → Nat), v = .slice (some ⟨g, 0, none⟩) xs.length cap ∧ base ≤ g ∧ ok g ∧ w.heap[g]? = some (.cells cur 30 (0, 0)) ∧ xs.length ≤ cap ∧ cap ≤ maxLen ∧ cur.size = cap ∧
      cur.toList.take xs.length = (List.finRange xs.length).map enc ∧ ∀ i : Fin xs.length, dR.M w base (fun k => (ok k ∧ k ≠ g) ∧ f k = i.val) xs[i] [enc i] := by
  obtain ⟨f, hok, inner, ho, hr⟩ := h
  rw [List.length_zipIdx] at ho
  obtain ⟨hil, ho2⟩ := ho
  rcases ho2 with ⟨_, h0⟩ | ⟨g, cap, cur, rfl, hbase, hcur, hlc, hcm, hcs, htake⟩
  · omega
  rw [show (tag f dR).sz = 1 from rfl, Nat.mul_one] at *
  refine ⟨g, cap, cur, fun i => inner[i.val]'(by rw [hil]; exact i.isLt), f, rfl, hbase, hok g rfl, hcur, hlc, hcm, hcs, ?_, fun i => ?_⟩
  · rw [htake]
    apply List.ext_getElem
    · simp [hil]
    · intro i h1 h2; simp
  · have hz : xs.zipIdx[i.val]? = some (xs[i], i.val) := zip_at (List.getElem?_eq_getElem i.isLt)
    have hi := hr.2 i.val _ hz
    rw [Nat.mul_one, List.drop_eq_getElem_cons (by rw [hil]; exact i.isLt)] at hi
    exact dR.M_mono (fun k hk => ⟨⟨hk.1.1, fun e => hk.1.2 (by rw [e]; rfl)⟩, hk.2⟩) hi
/-- .. and back, the numbers in another order. -/
theorem S_renumber {base : Nat} {ok : Nat → Prop} {xs : List (List Int)} {w w' : World} {g cap : Nat} {cur cur' : Array Value} {enc : Fin xs.length → Value} {f : Nat → Nat} (hbase : base ≤ g) (hok : ok g) (hlc : xs.length ≤ cap) (hcm : cap ≤ maxLen)
    (hel : ∀ i : Fin xs.length, dR.M w base (fun k => (ok k ∧ k ≠ g) ∧ f k = i.val) xs[i] [enc i]) (hg : w.grownBy w' (some g)) (dk : List (Fin xs.length)) (hperm : dk.Perm (List.finRange xs.length))
    (hcur : w'.heap[g]? = some (.cells cur' 30 (0, 0))) (hcs : cur'.size = cap) (htake : cur'.toList.take xs.length = dk.map enc) :
    Kd.S dR 30 w' base ok (.slice (some ⟨g, 0, none⟩) xs.length cap) (dk.map (fun i => xs[i])) := by
  have hdl : dk.length = xs.length := by rw [hperm.length_eq]; simp
  have hdn : dk.Nodup := hperm.nodup_iff.2 (List.nodup_finRange _)
  have hstay : ∀ i : Fin xs.length, dR.M w' base (fun k => (ok k ∧ k ≠ g) ∧ f k = i.val) xs[i] [enc i] := fun i => M_grown (hel i) hg (fun k hk e => hk.1.2 (by injection e))
  obtain ⟨f', hrep⟩ := reps_tag (d := dR) (w := w') (base := base) (ok := fun k => ok k ∧ some k ≠ (Value.slice (some ⟨g, 0, none⟩) xs.length cap).ownBlock) (xs := dk.map (fun i => xs[i])) (inner := dk.map enc)
    (fun j k => (ok k ∧ some k ≠ (Value.slice (some ⟨g, 0, none⟩) xs.length cap).ownBlock) ∧ ∃ h : j < dk.length, f k = (dk[j]).val)
    (fun i j k h1 h2 => by
      obtain ⟨_, hi, e1⟩ := h1
      obtain ⟨_, hj, e2⟩ := h2
      exact nodup_inj hdn hi hj (Fin.ext (e1.symm.trans e2)))
    (fun j k h => h.1) (by simp [dR, Kd.slice])
    (fun j x hx => by
      rw [List.getElem?_map] at hx
      obtain ⟨i, hi, rfl⟩ := Option.map_eq_some_iff.1 hx
      obtain ⟨hj, rfl⟩ := List.getElem?_eq_some_iff.1 hi
      have hm := hstay dk[j]
      have hd : ((dk.map enc).drop (j * dR.sz)).take dR.sz = [enc dk[j]] := by
        rw [show dR.sz = 1 from rfl, Nat.mul_one, List.drop_eq_getElem_cons (by simpa using hj)]
        simp
      rw [hd]
      exact dR.M_mono (fun k hk => ⟨⟨hk.1.1, fun e => hk.1.2 (by simpa [Value.ownBlock] using e)⟩, hj, hk.2⟩) hm)
  refine ⟨f', fun k hk => by have : g = k := by simpa [Value.ownBlock] using hk
                             rw [← this]; exact hok, dk.map enc, ?_, hrep⟩
  rw [List.length_zipIdx, List.length_map, hdl]
  refine ⟨by rw [show (tag f' dR).sz = 1 from rfl, Nat.mul_one]; simp [hdl], .inr ⟨g, cap, cur', rfl, hbase, hcur, hlc, hcm, ?_, ?_⟩⟩
  · rw [show (tag f' dR).sz = 1 from rfl, Nat.mul_one]; exact hcs
  · rw [show (tag f' dR).sz = 1 from rfl, Nat.mul_one]; exact htake

theorem sort_rows (base : Nat) (ok : Nat → Prop) (v : Value) (xs : List (List Int)) (w : World) (h : Kd.S dR 30 w base ok v xs) (hnd : xs.Nodup) (hlen : xs.length < 4611686018427387904) :
    Calls Try.prog 115 #[v, .func (.func 104) #[] #[]] w fun e w' =>
      e = .returned (.tuple #[]) ∧ Kd.S dR 30 w' base ok v (xs.mergeSort leL) ∧ w.grownBy w' v.ownBlock := by
  by_cases hn : xs = []
  · subst hn
    obtain ⟨A, c, rfl⟩ := S_slice h
    refine (Try.slices_SortFunc_none (α := Nat) A c _ w).mono fun e w' ⟨he, hw⟩ => ⟨he, ?_⟩
    rw [hw]
    exact ⟨by simpa using h, rfl, rfl, rfl, Nat.le_refl _, fun _ _ _ => rfl⟩
  have hpos : 0 < xs.length := by cases xs with | nil => exact absurd rfl hn | cons => simp
  obtain ⟨f, hok, inner, ho, hr⟩ := h
  rw [List.length_zipIdx] at ho
  obtain ⟨hil, ho2⟩ := ho
  rcases ho2 with ⟨_, h0⟩ | ⟨g, cap, cur, rfl, hbase, hcur, hlc, hcm, hcs, htake⟩
  · omega
  rw [show (tag f dR).sz = 1 from rfl, Nat.mul_one] at *
  have hgw : g < w.heap.size := blk_lt hcur
  -- the elements by their numbers
  haveI : Inhabited (Fin xs.length) := ⟨⟨0, hpos⟩⟩
  let enc : Fin xs.length → Value := fun i => inner[i.val]'(by rw [hil]; exact i.isLt)
  let cf : Fin xs.length → Fin xs.length → Int := fun i j => cmpL xs[i] xs[j]
  let l0 : List (Fin xs.length) := List.finRange xs.length
  have henc : l0.map enc = inner := by
    apply List.ext_getElem
    · simp [l0, hil]
    · intro i h1 h2; simp [l0, enc]
  have hel : ∀ i : Fin xs.length, dR.M w base (fun k => ((ok k ∧ some k ≠ (Value.slice (some ⟨g, 0, none⟩) xs.length cap).ownBlock) ∧ f k = i.val)) xs[i] [enc i] := fun i => by
    have hz : xs.zipIdx[i.val]? = some (xs[i], i.val) := zip_at (List.getElem?_eq_getElem i.isLt)
    have hi := hr.2 i.val _ hz
    rw [Nat.mul_one, List.drop_eq_getElem_cons (by rw [hil]; exact i.isLt)] at hi
    exact hi
  have hone : OneCell enc := fun i => dR.K_one (dR.K_of_M (hel i)) _ (by simp)
  have hO : SWO (ltOf cf) := {
    irrefl := fun i => by simp [ltOf, cf, cmpL_self]
    trans := fun i j k h1 h2 => by simp only [ltOf, cf, decide_eq_true_eq] at *; exact cmpL_trans _ _ _ h1 h2
    ntrans := fun i j k h1 h2 => by
      have h1' : leL xs[j] xs[i] = true := by simpa [ltOf, cf, leL] using h1
      have h2' : leL xs[k] xs[j] = true := by simpa [ltOf, cf, leL] using h2
      have := leL_trans _ _ _ h2' h1'
      simpa [ltOf, cf, leL] using this }
  have hT : ∀ i j, ltOf cf i j = false → ltOf cf j i = false → i = j := fun i j h1 h2 => by
    have h1' : leL xs[j] xs[i] = true := by simpa [ltOf, cf, leL] using h1
    have h2' : leL xs[i] xs[j] = true := by simpa [ltOf, cf, leL] using h2
    have := leL_antisymm _ _ h2' h1'
    exact Fin.ext (nodup_inj hnd i.isLt j.isLt this)
  have eg : ∀ args w, (callFunc 104 args).run Try.prog w = .ok (.enter 104 args) w := enters_of Try.func104 (by kernel_rfl) rfl
  have hsz : l0.toArray.size = xs.length := by simp [l0]
  have hH : Holds enc w g 0 l0.toArray := holds_of_block hcur (by rw [henc, show l0.length = xs.length by simp [l0]]; exact htake)
  -- in the worlds that the sort passes through the rows lie as they did
  have hstay : ∀ (m : Nat) (os : Array Obj) (dk : Array (Fin xs.length)) (i : Fin xs.length), dR.M (sortWorld enc w g 0 m dk os) base (fun k => ((ok k ∧ some k ≠ (Value.slice (some ⟨g, 0, none⟩) xs.length cap).ownBlock) ∧ f k = i.val)) xs[i] [enc i] := fun m os dk i =>
    M_grown (hel i) (row := some g) (grownBy_sorted dk) (fun k hk => by simpa [Value.ownBlock] using hk.1.2)
  have hcmp : CmpLays1 Try.prog 104 #[] enc cf g 0 l0.toArray.size w := by
    intro m os dk hdk i j
    obtain ⟨A, c, e1, h1, c1⟩ := dR.K_of_M (hstay m os dk i)
    obtain ⟨A', c', e2, h2, c2⟩ := dR.K_of_M (hstay m os dk j)
    have e1' : enc i = .slice A xs[i].length c := by simpa using e1
    have e2' : enc j = .slice A' xs[j].length c' := by simpa using e2
    rw [e1', e2']
    exact (compare_calls A A' c c' xs[i] xs[j] _ c1 h1 c2 h2).mono fun e w' ⟨he, q, hq⟩ => ⟨he, q, #[], by rw [hq, grow_empty]⟩
  have hS := Try.slices_SortFunc_total enc hone cf hO 104 #[] g 0 cap l0.toArray w eg hcmp hH hgw (by rw [hsz]; exact hlen) hT
  rw [hsz] at hS
  refine hS.mono fun e w' ⟨he, n, os, hw⟩ => ⟨he, ?_⟩
  subst hw
  refine ⟨?_, grownBy_sorted _⟩
  -- the sorted numbers
  generalize hdk : (l0.toArray.toList.mergeSort fun x y => !ltOf cf y x) = dk
  have hmap : dk.map (fun i => xs[i]) = xs.mergeSort leL := by
    rw [← hdk]
    rw [List.map_mergeSort (r := fun x y => !ltOf cf y x) (s := leL) (f := fun i => xs[i]) (fun i _ j _ => rfl)]
    congr 1
    apply List.ext_getElem
    · simp [l0]
    · intro i h1 h2; simp [l0]
  have hperm : dk.Perm l0 := by rw [← hdk]; simpa using List.mergeSort_perm l0 _
  have hdl : dk.length = xs.length := by rw [hperm.length_eq]; simp [l0]
  have hdn : dk.Nodup := hperm.nodup_iff.2 (List.nodup_finRange _)
  rw [← hmap]
  obtain ⟨f', hrep⟩ := reps_tag (d := dR) (w := sortWorld enc w g 0 n dk.toArray os) (base := base) (ok := fun k => ok k ∧ some k ≠ (Value.slice (some ⟨g, 0, none⟩) xs.length cap).ownBlock) (xs := dk.map (fun i => xs[i])) (inner := dk.map enc)
    (fun j k => (ok k ∧ some k ≠ (Value.slice (some ⟨g, 0, none⟩) xs.length cap).ownBlock) ∧ ∃ h : j < dk.length, f k = (dk[j]).val)
    (fun i j k h1 h2 => by
      obtain ⟨_, hi, e1⟩ := h1
      obtain ⟨_, hj, e2⟩ := h2
      exact nodup_inj hdn hi hj (Fin.ext (e1.symm.trans e2)))
    (fun j k h => h.1) (by simp [dR, Kd.slice])
    (fun j x hx => by
      rw [List.getElem?_map] at hx
      obtain ⟨i, hi, rfl⟩ := Option.map_eq_some_iff.1 hx
      obtain ⟨hj, rfl⟩ := List.getElem?_eq_some_iff.1 hi
      have hm := hstay n os dk.toArray dk[j]
      have hd : ((dk.map enc).drop (j * dR.sz)).take dR.sz = [enc dk[j]] := by
        rw [show dR.sz = 1 from rfl, Nat.mul_one, List.drop_eq_getElem_cons (by simpa using hj)]
        simp
      rw [hd]
      exact dR.M_mono (fun k hk => ⟨hk.1, hj, hk.2⟩) hm)
  refine ⟨f', fun k hk => hok k hk, dk.map enc, ?_, hrep⟩
  rw [List.length_zipIdx, List.length_map, hdl]
  refine ⟨by simp [hdl, dR, Kd.slice, tag], .inr ⟨g, cap, _, rfl, hbase, heap_sorted _ hcur, hlc, hcm, ?_, ?_⟩⟩
  · rw [show (tag f' dR).sz = 1 from rfl, Nat.mul_one]; simp [putCells]; simpa using hcs
  · rw [show (tag f' dR).sz = 1 from rfl, Nat.mul_one]
    have := take_putCells (enc := enc) cur dk (by have : cur.size = cap * 1 := by simpa using hcs
                                                  omega)
    rwa [hdl] at this

end Go.Proofs.Ytmeaffkgnmgmeaa.Sorting
