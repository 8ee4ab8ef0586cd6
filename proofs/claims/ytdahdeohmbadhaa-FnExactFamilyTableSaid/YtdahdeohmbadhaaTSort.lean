/- What slices.SortFunc leaves in memory. Contract of slices.SortFunc at rows of structs: a row of the call's own ends in order, whatever its elements. -/
import Derived.Test.YtdahdeohmbadhaaShelf
import Derived.Test.YtdahdeohmbadhaaWWords
import Derived.Test.YtdahdeohmbadhaaWApart
import Derived.Test.YtdahdeohmbadhaaWMore
import Derived.Test.YtdahdeohmbadhaaWLast
import Derived.Shelf.SlSortCmp.WholeK
namespace Go.Proofs.Ytdahdeohmbadhaa.Sorting
open Go.RowKit Go.Lib Go.Sort Go.Proofs Go.Proofs.YtdahdeohmbadhaaW.PrintWords Go.Proofs.YtdahdeohmbadhaaW.PrintWords.Kd Go.Proofs.YtdahdeohmbadhaaW.PrintLast Go.Proofs.YtdahdeohmbadhaaW.PrintMore
set_option linter.unusedVariables false
set_option linter.unusedSimpArgs false

section
variable {α : Type} [Inhabited α]
theorem holds_of_block {enc : α → Value} {w : World} {g : Nat} {cur : Array Value} {e : TypeId} {ss : List α} (hb : w.heap[g]? = some (.cells cur e (0, 0))) (ht : cur.toList.take ss.length = ss.map enc) : Holds enc w g 0 ss.toArray := by
 intro j hj
 have hj' : j < ss.length := by simpa using hj
 refine ⟨?_, by simp [World.frozen?, hb]⟩
 have h1 : (cur.toList.take ss.length)[j]? = (ss.map enc)[j]? := by rw [ht]
 rw [List.getElem?_take_of_lt hj'] at h1
 simp only [World.cell?, hb, Nat.zero_add]
 simp only [Option.isSome_none, Bool.false_eq_true, if_false]
 rw [← Array.getElem?_toList, h1]
 simp [hj']
theorem heap_sorted {enc : α → Value} {w : World} {g n : Nat} {os : Array Obj} {cur : Array Value} {e : TypeId} {fr : Nat × Nat} (d : Array α) (hb : w.heap[g]? = some (.cells cur e fr)) :
  (sortWorld enc w g 0 n d os).heap[g]? = some (.cells (putCells enc 0 d cur) e fr) := by
 have hg : g < w.heap.size := (Array.getElem?_eq_some_iff.1 hb).1
 unfold sortWorld
 rw [heap_grow_old _ _ (by simpa using hg)]
 simp [putRow, mapBlock, Sort.ahead, Array.getElem?_modify, hb, onCells]
theorem grownBy_sorted {enc : α → Value} {w : World} {g n : Nat} {os : Array Obj} (d : Array α) : w.grownBy (sortWorld enc w g 0 n d os) (some g) := by
 unfold sortWorld
 refine ⟨rfl, rfl, rfl, by simp, fun k hk hne => ?_⟩
 rw [heap_grow_old _ _ (by simpa using hk)]
 have : g ≠ k := fun e => hne (by rw [e])
 simp [putRow, mapBlock, Sort.ahead, Array.getElem?_modify, this]
theorem take_putCells {enc : α → Value} (cur : Array Value) (ts : List α) (h : ts.length ≤ cur.size) : (putCells enc 0 ts.toArray cur).toList.take ts.length = ts.map enc := by
 apply List.ext_getElem?
 intro j
 by_cases hj : j < ts.length
 ·
  rw [List.getElem?_take_of_lt hj, Array.getElem?_toList]
  simp [putCells, hj, show j < cur.size by omega]
 ·
  rw [List.getElem?_take_eq_none (by omega), List.getElem?_eq_none (by simp; omega)]
end

theorem nodup_inj {β : Type} {l : List β} (h : l.Nodup) {i j : Nat} (hi : i < l.length) (hj : j < l.length) (e : l[i] = l[j]) : i = j := by
 have hp := List.pairwise_iff_getElem.1 h
 rcases Nat.lt_trichotomy i j with hij | hij | hij
 ·
  exact absurd e (hp i j hi hj hij)
 ·
  exact hij
 ·
  exact absurd e.symm (hp j i hj hi hij)


end Go.Proofs.Ytdahdeohmbadhaa.Sorting

namespace Go.Proofs.Ytdahdeohmbadhaa.TSort
open Go.RowKit Go.Lib Go.Sort Go.Proofs Go.Proofs.YtdahdeohmbadhaaW.PrintWords Go.Proofs.YtdahdeohmbadhaaW.PrintWords.Kd Go.Proofs.YtdahdeohmbadhaaW.PrintLast Go.Proofs.YtdahdeohmbadhaaW.PrintMore Go.Proofs.Ytdahdeohmbadhaa.Sorting
set_option linter.unusedVariables false
set_option linter.unusedSimpArgs false

section
variable {β : Type} [Inhabited β]
theorem flat_at (enc : β → List Value) (k : Nat) (hk : ∀ x, (enc x).length = k) (d : Array β) (j : Nat) (hj : j < d.size) : ((flatK enc k d).toList.drop (j * k)).take k = enc d[j]! := by
 have hmul : j * k + k ≤ d.size * k := by
  have := Nat.mul_le_mul_right k (show j + 1 ≤ d.size from hj)
  rwa [Nat.add_mul, Nat.one_mul] at this
 apply List.ext_getElem?
 intro i
 by_cases hi : i < k
 ·
  have hlt : j * k + i < d.size * k := by omega
  have hdiv : (j * k + i) / k = j := (blk_iff k j (j * k + i) (by omega)).1 ⟨by omega, by omega⟩
  have hmod : (j * k + i) % k = i := by rw [Nat.mod_eq_sub_div_mul, hdiv]; omega
  have hg := get_flatK enc k d (j * k + i) hlt
  rw [hdiv, hmod] at hg
  rw [List.getElem?_take_of_lt hi, List.getElem?_drop, Array.getElem?_toList, Array.getElem?_eq_getElem (by rw [size_flatK]; exact hlt)]
  rw [getElem!_pos (flatK enc k d) _ (by rw [size_flatK]; exact hlt)] at hg
  rw [hg, List.getElem?_eq_getElem (by rw [hk]; exact hi), getElem!_pos _ i (by rw [hk]; exact hi)]
 ·
  rw [List.getElem?_take_eq_none (by omega), List.getElem?_eq_none (by rw [hk]; omega)]
theorem holds_flat {w : World} {g : Nat} {cur : Array Value} {e : TypeId} (F : Array Value) (hb : w.heap[g]? = some (.cells cur e (0, 0))) (ht : cur.toList.take F.size = F.toList) : Holds id w g 0 F := by
 intro j hj
 refine ⟨?_, by simp [World.frozen?, hb]⟩
 have h1 : (cur.toList.take F.size)[j]? = F.toList[j]? := by rw [ht]
 rw [List.getElem?_take_of_lt hj, Array.getElem?_toList, Array.getElem?_toList] at h1
 simp only [World.cell?, hb, Nat.zero_add]
 simp only [Option.isSome_none, Bool.false_eq_true, if_false]
 rw [h1, Array.getElem?_eq_getElem hj, getElem!_pos F j hj]
 rfl
end

/-- In order, by a comparison. -/
def leOf {α : Type} (cf : α → α → Int) (a b : α) : Bool := !decide (cf b a < 0)
theorem sort_K {α : Type} (d : Kd α) (k : Nat) (hk0 : 0 < k) (hsz : d.sz = k) (e : Nat) (fS g : FuncId) (cf : α → α → Int)
  (hirr : ∀ a, ¬ cf a a < 0) (htr : ∀ a b c, cf a b < 0 → cf b c < 0 → cf a c < 0) (hle : ∀ a b c, leOf cf a b = true → leOf cf b c = true → leOf cf a c = true) (htot : ∀ a b, (leOf cf a b || leOf cf b a) = true) (hanti : ∀ a b, leOf cf a b = true → leOf cf b a = true → a = b)
  (HSORT : ∀ (β : Type) [Inhabited β] (enc : β → List Value), (∀ x, (enc x).length = k) → (∀ x, ∀ v ∈ enc x, v.oneCell' = true) → ∀ cf' : β → β → Int, SWO (ltOf cf') → ∀ (blk off cap : Nat) (dd : Array β) (w : World), CmpLays Try.prog g #[] enc k cf' blk off dd.size w → HoldsK enc k w blk off dd → blk < w.heap.size → dd.size < 4611686018427387904 →
   Calls Try.prog fS #[.slice (some ⟨blk, off, none⟩) dd.size cap, .func (.func g) #[] #[]] w fun e w' => e = .returned (.tuple #[]) ∧ ∃ d' n os, PermIn 0 dd.size dd d' ∧ SortedIn (ltOf cf') 0 dd.size d' ∧ w' = sortWorldK enc k w blk off n d' os)
  (HC : ∀ (W : World) (base : Nat) (ok ok' : Nat → Prop) (x y : α) (cx cy : List Value), d.M W base ok x cx → d.M W base ok' y cy → Calls Try.prog g #[.agg cx.toArray, .agg cy.toArray] W fun e w' => e = .returned (.int .i64 (cf x y)) ∧ ∃ q os', w' = grow (W.drewN q) os')
  (base : Nat) (ok : Nat → Prop) (v : Value) (xs : List α) (w : World) (h : Kd.S d e w base ok v xs) (hpos : 0 < xs.length) (hlen : xs.length < 4611686018427387904) :
  Calls Try.prog fS #[v, .func (.func g) #[] #[]] w fun e' w' => e' = .returned (.tuple #[]) ∧ Kd.S d e w' base ok v (xs.mergeSort (leOf cf)) ∧ w.grownBy w' v.ownBlock := by
 obtain ⟨f, hok, inner, ho, hr⟩ := h
 rw [List.length_zipIdx] at ho
 obtain ⟨hil, ho2⟩ := ho
 rcases ho2 with ⟨_, h0⟩ | ⟨gb, cap, cur, rfl, hbase, hcur, hlc, hcm, hcs, htake⟩
 ·
  omega
 rw [show (tag f d).sz = k from hsz] at *
 have hgw : gb < w.heap.size := blk_lt hcur
 haveI : Inhabited (Fin xs.length) := ⟨⟨0, hpos⟩⟩
 let enc : Fin xs.length → List Value := fun i => (inner.drop (i.val * k)).take k
 let cf' : Fin xs.length → Fin xs.length → Int := fun i j => cf xs[i] xs[j]
 let l0 : List (Fin xs.length) := List.finRange xs.length
 have hl0 : l0.length = xs.length := by simp [l0]
 have hmul : ∀ i : Fin xs.length, i.val * k + k ≤ inner.length := fun i => by
  rw [hil]
  have := Nat.mul_le_mul_right k (show i.val + 1 ≤ xs.length from i.isLt)
  rwa [Nat.add_mul, Nat.one_mul] at this
 have hek : ∀ i, (enc i).length = k := fun i => by
  have := hmul i
  simp only [enc, List.length_take, List.length_drop]
  omega
 have hel : ∀ i : Fin xs.length, d.M w base (fun q => ((ok q ∧ some q ≠ (Value.slice (some ⟨gb, 0, none⟩) xs.length cap).ownBlock) ∧ f q = i.val)) xs[i] (enc i) := fun i => by
  have hz : xs.zipIdx[i.val]? = some (xs[i], i.val) := zip_at (List.getElem?_eq_getElem i.isLt)
  exact hr.2 i.val _ hz
 have hone : ∀ i, ∀ u ∈ enc i, u.oneCell' = true := fun i u hu => d.K_one (d.K_of_M (hel i)) u hu
 have hat0 : ∀ j, j < xs.length → l0.toArray[j]! = (if hj : j < xs.length then ⟨j, hj⟩ else default) := fun j hj => by
  rw [getElem!_pos l0.toArray j (by simpa [l0] using hj), dif_pos hj]
  simp [l0]
 have hflat0 : (flatK enc k l0.toArray).toList = inner := by
  apply List.ext_getElem?
  intro t
  by_cases ht : t < xs.length * k
  ·
   have hq : t / k < xs.length := by rwa [Nat.div_lt_iff_lt_mul hk0]
   have hm := Nat.mod_lt t hk0
   have hg := get_flatK enc k l0.toArray t (by simpa [l0] using ht)
   rw [hat0 _ hq, dif_pos hq] at hg
   rw [Array.getElem?_toList, Array.getElem?_eq_getElem (by rw [size_flatK]; simpa [l0] using ht)]
   rw [getElem!_pos (flatK enc k l0.toArray) t (by rw [size_flatK]; simpa [l0] using ht)] at hg
   rw [hg, getElem!_pos (enc ⟨t / k, hq⟩) (t % k) (by rw [hek]; exact hm)]
   rw [List.getElem?_eq_getElem (by rw [hil]; exact ht)]
   congr 1
   simp only [enc, List.getElem_take, List.getElem_drop]
   congr 1
   have := Nat.div_add_mod t k
   rw [Nat.mul_comm] at this
   omega
  ·
   rw [List.getElem?_eq_none (by simp [l0]; omega), List.getElem?_eq_none (by rw [hil]; omega)]
 have hO : SWO (ltOf cf') := {
  irrefl := fun i => by simpa [ltOf, cf'] using hirr xs[i]
  trans := fun i j m h1 h2 => by simp only [ltOf, cf', decide_eq_true_eq] at *; exact htr _ _ _ h1 h2
  ntrans := fun i j m h1 h2 => by
   have h1' : leOf cf xs[j] xs[i] = true := by simpa [ltOf, cf', leOf] using h1
   have h2' : leOf cf xs[m] xs[j] = true := by simpa [ltOf, cf', leOf] using h2
   have := hle _ _ _ h2' h1'
   simpa [ltOf, cf', leOf] using this }
 have hH : HoldsK enc k w gb 0 l0.toArray := holds_flat _ hcur (by rw [hflat0, size_flatK, List.size_toArray, hl0]; exact htake)
 have hstay : ∀ (m : Nat) (os : Array Obj) (dk : Array (Fin xs.length)) (i : Fin xs.length), d.M (sortWorldK enc k w gb 0 m dk os) base (fun q => ((ok q ∧ some q ≠ (Value.slice (some ⟨gb, 0, none⟩) xs.length cap).ownBlock) ∧ f q = i.val)) xs[i] (enc i) := fun m os dk i =>
  M_grown (hel i) (row := some gb) (grownBy_sorted (enc := id) (flatK enc k dk)) (fun q hq => by simpa [Value.ownBlock] using hq.1.2)
 have hcmp : CmpLays Try.prog g #[] enc k cf' gb 0 l0.toArray.size w := by
  intro m os dk hdk i j
  have := HC (sortWorldK enc k w gb 0 m dk os) base _ _ xs[i] xs[j] (enc i) (enc j) (hstay m os dk i) (hstay m os dk j)
  rw [Array.append_empty]
  exact this
 have hS := HSORT (Fin xs.length) enc hek hone cf' hO gb 0 cap l0.toArray w hcmp hH hgw (by rw [List.size_toArray, hl0]; exact hlen)
 rw [List.size_toArray, hl0] at hS
 refine hS.mono ?_
 rintro e' w' ⟨he, d', n, os, hp, hs, rfl⟩
 refine ⟨he, ?_, grownBy_sorted (enc := id) (flatK enc k d')⟩
 -- the sorted numbers
 obtain ⟨hds, _, hperm0⟩ := hp
 have hds' : d'.size = xs.length := by rw [hds, List.size_toArray, hl0]
 have hperm : d'.toList.Perm l0 := by
  have e1 : ∀ (a : Array (Fin xs.length)) (m : Nat), a.size = m → (a.extract 0 m).toList = a.toList := by
   intro a m hm
   subst hm
   rw [Array.extract_size]
  rwa [e1 d' _ hds', e1 l0.toArray _ (by simp [l0])] at hperm0
 have hdn : d'.toList.Nodup := hperm.nodup_iff.2 (List.nodup_finRange _)
 have hdl : d'.toList.length = xs.length := by simpa using hds'
 have hmap : d'.toList.map (fun i => xs[i]) = xs.mergeSort (leOf cf) := by
  refine List.Perm.eq_of_pairwise (fun a b _ _ h1 h2 => hanti a b h1 h2) ?_ (List.pairwise_mergeSort hle htot xs) ?_
  ·
   rw [List.pairwise_map, List.pairwise_iff_getElem]
   intro i j hi hj hij
   have := hs i j (Nat.zero_le _) hij (by omega)
   rw [getElem!_pos d' i (by omega), getElem!_pos d' j (by omega)] at this
   simpa [ltOf, cf', leOf] using this
  ·
   refine (hperm.map _).trans ?_
   have : l0.map (fun i => xs[i]) = xs := by
    apply List.ext_getElem
    ·
     simp [l0]
    ·
     intro i h1 h2; simp [l0]
   rw [this]
   exact (List.mergeSort_perm xs _).symm
 rw [← hmap]
 have hfl : (flatK enc k d').size = xs.length * k := by rw [size_flatK, hds']
 obtain ⟨f', hrep⟩ := reps_tag (d := d) (w := sortWorldK enc k w gb 0 n d' os) (base := base) (ok := fun q => ok q ∧ some q ≠ (Value.slice (some ⟨gb, 0, none⟩) xs.length cap).ownBlock) (xs := d'.toList.map (fun i => xs[i])) (inner := (flatK enc k d').toList)
  (fun j q => (ok q ∧ some q ≠ (Value.slice (some ⟨gb, 0, none⟩) xs.length cap).ownBlock) ∧ ∃ h : j < d'.toList.length, f q = (d'.toList[j]).val)
  (fun i j q h1 h2 => by
   obtain ⟨_, hi, e1⟩ := h1
   obtain ⟨_, hj, e2⟩ := h2
   exact nodup_inj hdn hi hj (Fin.ext (e1.symm.trans e2)))
  (fun j q h => h.1) (by rw [hsz, List.length_map, hdl]; simpa using hfl)
  (fun j x hx => by
   rw [List.getElem?_map] at hx
   obtain ⟨i, hi, rfl⟩ := Option.map_eq_some_iff.1 hx
   obtain ⟨hj, rfl⟩ := List.getElem?_eq_some_iff.1 hi
   have hm := hstay n os d' d'.toList[j]
   have hjd : j < d'.size := by simpa using hj
   have hd := flat_at enc k hek d' j hjd
   rw [getElem!_pos d' j hjd] at hd
   rw [hsz, hd]
   have e3 : d'.toList[j] = d'[j] := by simp
   rw [e3] at hm
   exact d.M_mono (fun q hq => ⟨hq.1, hj, by rw [e3]; exact hq.2⟩) hm)
 refine ⟨f', fun q hq => hok q hq, (flatK enc k d').toList, ?_, hrep⟩
 rw [List.length_zipIdx, List.length_map, hdl]
 refine ⟨by rw [show (tag f' d).sz = k from hsz]; simpa using hfl, .inr ⟨gb, cap, _, rfl, hbase, heap_sorted (enc := id) (flatK enc k d') hcur, hlc, hcm, ?_, ?_⟩⟩
 ·
  rw [show (tag f' d).sz = k from hsz]; simp [putCells]; simpa using hcs
 ·
  rw [show (tag f' d).sz = k from hsz]
  have hsize : cur.size = cap * k := by simpa using hcs
  have := take_putCells (enc := id) cur (flatK enc k d').toList (by
   have := Nat.mul_le_mul_right k hlc
   simp only [Array.length_toList, hfl]
   omega)
  simp only [Array.length_toList, hfl, List.map_id, Array.toArray_toList] at this
  exact this

end Go.Proofs.Ytdahdeohmbadhaa.TSort
