/- Contract of slices.SortFunc at a table's rows. -/
import Derived.Test.YtdahdeohmbadhaaTCmp
namespace Go.Proofs.Ytdahdeohmbadhaa.TRows
open Go.RowKit Go.Lib Go.Sort Go.Proofs Go.Proofs.YtdahdeohmbadhaaW.PrintWords Go.Proofs.YtdahdeohmbadhaaW.PrintWords.Kd Go.Proofs.YtdahdeohmbadhaaW.PrintLast Go.Proofs.YtdahdeohmbadhaaW.PrintMore Go.Proofs.Ytdahdeohmbadhaa.G Go.Proofs.Ytdahdeohmbadhaa.Fam Go.Proofs.Ytdahdeohmbadhaa.MarkT Go.Proofs.Ytdahdeohmbadhaa.TSort Go.Proofs.Ytdahdeohmbadhaa.TCmp
set_option linter.unusedVariables false
set_option linter.unusedSimpArgs false

theorem rows_cmp (W : World) (base : Nat) (ok ok' : Nat → Prop) (x y : Row) (cx cy : List Value) (h1 : dW.M W base ok x cx) (h2 : dW.M W base ok' y cy) :
    Calls Try.prog 141 #[.agg cx.toArray, .agg cy.toArray] W fun e w' => e = .returned (.int .i64 (cmpT x y)) ∧ ∃ q os', w' = grow (W.drewN q) os' := by
  obtain ⟨v1, rfl, r1⟩ := k87_openM h1
  obtain ⟨v2, rfl, r2⟩ := k87_openM h2
  obtain ⟨A1, c1, rfl, hl1, hc1⟩ := R_reads r1
  obtain ⟨A2, c2, rfl, hl2, hc2⟩ := R_reads r2
  exact compare_calls x y A1 A2 c1 c2 W hc1 hl1 hc2 hl2
theorem sort_rows (base : Nat) (ok : Nat → Prop) (v : Value) (rs : List Row) (w : World) (h : Kd.S dW 87 w base ok v rs) (hlen : rs.length < 4611686018427387904) :
    Calls Try.prog 140 #[v, .func (.func 141) #[] #[]] w fun e w' => e = .returned (.tuple #[]) ∧ Kd.S dW 87 w' base ok v (rs.mergeSort leT) ∧ w.grownBy w' v.ownBlock := by
  by_cases hn : rs = []
  · subst hn
    obtain ⟨A, c, rfl⟩ := S_slice h
    refine (Try.slices_SortFunc_none_f140 (α := Nat) A c _ w).mono fun e w' ⟨he, hw⟩ => ⟨he, ?_⟩
    rw [hw]
    exact ⟨by simpa using h, rfl, rfl, rfl, Nat.le_refl _, fun _ _ _ => rfl⟩
  have hpos : 0 < rs.length := List.length_pos_iff.2 hn
  have eg : ∀ args w, (callFunc 141 args).run Try.prog w = .ok (.enter 141 args) w := enters_of Try.func141 (by kernel_rfl) rfl
  exact sort_K dW 2 (by decide) rfl 87 140 141 cmpT (fun a h => by rw [cmpT_self] at h; omega) (fun a b c => cmpT_trans) leT_trans leT_total leT_anti
    (fun β _ enc hk h1 cf' hO blk off cap dd w hcmp hH hblk hsz => Try.slices_SortFunc_f140 enc hk h1 cf' hO 141 #[] blk off cap dd w eg hcmp hH hblk hsz)
    rows_cmp base ok v rs w h hpos hlen

end Go.Proofs.Ytdahdeohmbadhaa.TRows
