/- Contract of the reference's l06Sort at rows of the call's own: they end in order. -/
import Derived.Test.YtdahdeohmbadhaaTMerge
import Derived.Test.YtdahdeohmbadhaaTSort
namespace Go.Proofs.Ytdahdeohmbadhaa.TMerge
open Go.RowKit Go.Lib Go.Proofs Go.Proofs.YtdahdeohmbadhaaW.PrintWords Go.Proofs.YtdahdeohmbadhaaW.PrintWords.Kd Go.Proofs.YtdahdeohmbadhaaW.PrintLast Go.Proofs.YtdahdeohmbadhaaW.PrintMore Go.Proofs.Ytdahdeohmbadhaa.G Go.Proofs.Ytdahdeohmbadhaa.Fam Go.Proofs.Ytdahdeohmbadhaa.Loops Go.Proofs.Ytdahdeohmbadhaa.MarkT Go.Proofs.Ytdahdeohmbadhaa.TSort Go.Proofs.Ytdahdeohmbadhaa.TCmp Go.Proofs.Ytdahdeohmbadhaa.TLess Go.Proofs.Ytdahdeohmbadhaa.TShape Go.Proofs.Ytdahdeohmbadhaa.TOk Go.Proofs.Ytdahdeohmbadhaa.Sorting
set_option linter.unusedVariables false
set_option linter.unusedSimpArgs false

theorem lsort_rows (base : Nat) (ok : Nat → Prop) (v : Value) (rs : List Row) (w : World) (h : Kd.S dW 87 w base ok v rs) (hlen : rs.length ≤ 1048576) :
    Calls Try.prog 63 #[v] w fun e w' => ∃ v', e = .returned v' ∧ Kd.S dW 87 w' base (fun k => ok k ∨ w.heap.size ≤ k) v' (rs.mergeSort leT) ∧ Below w.heap.size w w' := by
  have hS := h
  obtain ⟨A, c, rfl⟩ := S_slice h
  obtain ⟨f, hok, inner, ho, hr⟩ := h
  rw [List.length_zipIdx] at ho
  have hil : inner.length = rs.length * 2 := ho.1
  let n := rs.length
  let key : Fin n → Row := fun i => rs[i]
  let enc : Fin n → List Value := fun i => (inner.drop (i.val * 2)).take 2
  let l0 : List (Fin n) := List.finRange n
  have hl0 : l0.length = rs.length := by simp [l0, n]
  have hmul : ∀ i : Fin n, i.val * 2 + 2 ≤ inner.length := fun i => by
    have := i.isLt
    have e : n = rs.length := rfl
    omega
  have hek : ∀ i, (enc i).length = 2 := fun i => by
    have := hmul i
    simp only [enc, List.length_take, List.length_drop]
    omega
  have hel : ∀ i : Fin n, dW.M w base (fun q => ((ok q ∧ some q ≠ (Value.slice A rs.length c).ownBlock) ∧ f q = i.val)) rs[i] (enc i) := fun i => by
    have hz : rs.zipIdx[i.val]? = some (rs[i], i.val) := zip_at (List.getElem?_eq_getElem i.isLt)
    exact hr.2 i.val _ hz
  have hone : ∀ i, ∀ u ∈ enc i, u.oneCell' = true := fun i u hu => dW.K_one (dW.K_of_M (hel i)) u hu
  have hRaw : Kd.R (raw 2) 87 w base (fun _ => True) (.slice A rs.length c) (l0.map enc) := by
    refine ⟨fun _ _ => trivial, inner, by rw [List.length_map, hl0]; exact ho, by rw [List.length_map, hl0]; exact hil, fun j p hj => ?_⟩
    rw [List.getElem?_map] at hj
    obtain ⟨i, hi, rfl⟩ := Option.map_eq_some_iff.1 hj
    have hij : i.val = j := by
      obtain ⟨hj2, e⟩ := List.getElem?_eq_some_iff.1 hi
      rw [← e]
      simp [l0]
    subst hij
    exact ⟨rfl, hek i, hone i⟩
  obtain ⟨_, hcc, hRC⟩ := R_reads' hRaw
  rw [List.length_map, hl0] at hRC
  have hRC' : RawC enc w A l0 := by unfold RawC; rw [hl0]; exact hRC
  have hK : Keyed key enc w l0 := fun i _ => by
    obtain ⟨v1, e1, r1⟩ := k87_openM (hel i)
    obtain ⟨A1, c1, rfl, hl1, hc1⟩ := R_reads r1
    exact ⟨A1, c1, e1, hl1, hc1⟩
  have hcall := lsort_calls (key := key) (enc := enc) rs.length l0 A c w (by rw [hl0]; exact Nat.le_refl _) (by rw [hl0]; exact hlen) (by rw [hl0]; exact hcc) hRC' hK
  rw [hl0] at hcall
  refine hcall.mono ?_
  rintro e w' ⟨A', c', ys, rfl, _, hperm, hpw, _, _, hbel, hsmall, hbig⟩
  rw [hl0] at hsmall hbig
  have hyl : ys.length = rs.length := by rw [hperm.length_eq, hl0]
  have hyn : ys.Nodup := hperm.nodup_iff.2 (List.nodup_finRange _)
  have hl0map : l0.map key = rs := by
    apply List.ext_getElem
    · simp [l0, n]
    · intro i h1 h2; simp [l0, key]
  have hmap : ys.map key = rs.mergeSort leT := by
    refine List.Perm.eq_of_pairwise (fun a b _ _ h1 h2 => leT_anti a b h1 h2) ?_ (List.pairwise_mergeSort leT_trans leT_total rs) ?_
    · rw [List.pairwise_map]
      exact hpw
    · refine (hperm.map _).trans ?_
      rw [hl0map]
      exact (List.mergeSort_perm rs _).symm
  refine ⟨_, rfl, ?_, hbel⟩
  rw [← hmap]
  by_cases h2 : rs.length < 2
  · obtain ⟨rfl, rfl, rfl⟩ := hsmall h2
    rw [hl0map, hl0]
    exact S_mono (S_below hS hbel) (fun _ hk => .inl hk)
  · obtain ⟨_, inner', ho', hr'⟩ := hbig (by omega)
    rw [List.length_map] at ho'
    have hbase : base ≤ w.heap.size := by
      rcases ho.2 with ⟨e1, e2⟩ | ⟨g, cap, cur, e1, hg, hh, _⟩
      · have : rs.length = 0 := by injection e1
        omega
      · have := blk_lt hh
        omega
    have hnew : ∀ q, (Value.slice A' ys.length c').ownBlock = some q → w.heap.size ≤ q := fun q hq => own_base ho' q hq
    obtain ⟨f', hrep⟩ := reps_tag (d := dW) (w := w') (base := base) (ok := fun q => ok q ∧ q < w.heap.size) (xs := ys.map key) (inner := inner')
      (fun j q => (ok q ∧ q < w.heap.size) ∧ ∃ h : j < ys.length, f q = (ys[j]).val)
      (fun i j q h1 h2 => by
        obtain ⟨_, hi, e1⟩ := h1
        obtain ⟨_, hj, e2⟩ := h2
        exact nodup_inj hyn hi hj (Fin.ext (e1.symm.trans e2)))
      (fun j q h => h.1) (by rw [List.length_map]; exact ho'.1)
      (fun j x hx => by
        rw [List.getElem?_map] at hx
        obtain ⟨i, hi, rfl⟩ := Option.map_eq_some_iff.1 hx
        obtain ⟨hj, rfl⟩ := List.getElem?_eq_some_iff.1 hi
        have hd := (hr'.2 j (enc ys[j]) (by rw [List.getElem?_map, hi]; rfl)).1
        have hm := dW.M_bound (hel ys[j])
        have hm2 := dW.M_move (w1 := w') (fun k hk => hbel.block k hk.2.2.1) hm
        have hd2 : (inner'.drop (j * dW.sz)).take dW.sz = enc ys[j] := hd
        rw [hd2]
        exact dW.M_mono (fun q hq => ⟨⟨hq.1.1.1, hq.2.2.1⟩, hj, hq.1.2⟩) hm2)
    refine ⟨f', fun q hq => .inr (hnew q hq), inner', ?_, ?_⟩
    · rw [List.length_zipIdx, List.length_map]
      exact own_weaken ho' hbase
    · refine Reps.imp_ hrep (fun p cs hp => (tag f' dW).M_mono (fun q hq => ⟨.inl hq.1, fun e => ?_⟩) hp)
      have := hnew q e.symm
      have := hq.2
      omega

end Go.Proofs.Ytdahdeohmbadhaa.TMerge
