/- Contract of the reference's A2FamilyOf. -/
import Derived.Test.YtgemfighmnnmeaaSome
namespace Go.Proofs.Ytgemfighmnnmeaa.Some
open Go.RowKit Go.Lib Go.Proofs Go.Proofs.YtgemfighmnnmeaaW.PrintWords Go.Proofs.YtgemfighmnnmeaaW.PrintWords.Kd Go.Proofs.YtgemfighmnnmeaaW.PrintLast Go.Proofs.YtgemfighmnnmeaaW.PrintMore Go.Proofs.Ytgemfighmnnmeaa.G Go.Proofs.Ytgemfighmnnmeaa.Fam Go.Proofs.Ytgemfighmnnmeaa.Loops Go.Proofs.Ytgemfighmnnmeaa.Bits Go.Proofs.Ytgemfighmnnmeaa.Sorting Go.Proofs.Ytgemfighmnnmeaa.Crowds Go.Proofs.Ytgemfighmnnmeaa.Idx Go.Proofs.Ytgemfighmnnmeaa.Valid Go.Proofs.Ytgemfighmnnmeaa.Opens Go.Proofs.Ytgemfighmnnmeaa.FamLaw Go.Proofs.Ytgemfighmnnmeaa.Ops Go.Proofs.Ytgemfighmnnmeaa.From Go.Proofs.Ytgemfighmnnmeaa.Ref Go.Proofs.Ytgemfighmnnmeaa.Drawn
set_option linter.unusedVariables false
set_option linter.unusedSimpArgs false

set_option maxHeartbeats 2000000 in
set_option maxRecDepth 100000 in
theorem A2FamilyOf_calls (A : Option Addr) (c : Nat) (cd : List Int) (n : Int) (r1 : Int) (r2 : List (List Int)) (w : World) (hC : Kd.C (Kd.int .u8) w A cd.length cd) (hc : cd.length ≤ c) (h : famOfF cd n = some (r1, r2)) :
    Calls Try.prog 5 #[.slice A cd.length c, .int .i64 n] w fun e w' => ∃ v, e = .returned (.agg #[.int .i64 r1, v]) ∧ Kd.S dR 29 w' w.heap.size (fun _ => True) v r2 ∧ Below w.heap.size w w' := by
  have hu := Try.underlying26
  unfold famOfF at h
  split at h
  · rename_i hh
    obtain ⟨hbytes, hn1, hn7⟩ := hh
    obtain ⟨m, rfl⟩ : ∃ m : Nat, n = (m : Int) := ⟨n.toNat, by omega⟩
    obtain ⟨gs, a', s', e3, hv⟩ := drawn_ok cd hbytes m (by omega) (by omega) 0 0 (by omega) (by omega)
    rw [Int.toNat_natCast, e3] at h
    obtain ⟨rfl, rfl⟩ : (m : Int) = r1 ∧ gs = r2 := by simpa using h
    have HF := fun w0 W hb hr => spec_l00From.calls A c cd cd 0 0 w0 W hb hr hc (from0 cd)
    have HSM := fun g w0 W hI hB X hxg hV => drawn_calls cd hbytes g 0 0 (by omega) (by omega) m (by omega) (by omega) w0 W hI hB X hxg hV
    have HC := Aside0.mk hC
    have HE3 := Aside0.mk e3
    clear hC hbytes h e3 hv
    go_enter Try.func5, Try.ntmps5
    go_wp2_with (first | (go_at_call 11; refine (HF _ _ (Below.refl _ _) (Kd.C_alloc HC.out _)).mono ?_; rintro e w1 ⟨g, rfl, hi1, hb1, _⟩; have HG := Aside0.mk hi1; have HZ := Aside0.mk (blk_below (blk_at (k := w.heap.size) (W := w) rfl) hb1); have HB1 := Aside0.mk hb1; clear hi1 hb1) | (go_at_call 10; refine (HSM _ _ _ HG.out HB1.out (fun x => x = w.heap.size) (fun x hx => by rw [hx]; have := HG.out.ge; simp at this; omega) (fun x hx => by rw [hx]; exact HZ.out)).mono ?_; rintro e w2 ⟨v2, gs2, a2', s2', rfl, hd2, hs2, hi2, _, _, hb2, hv2⟩; have HZ4 := Aside0.mk (hv2 w.heap.size rfl); have z0 : w2.cell? ⟨w.heap.size, 0, none⟩ = some (.int .i64 0) := (blk_cell HZ4.out 0).trans rfl; have z1 : w2.cell? ⟨w.heap.size, 1, none⟩ = some (.slice none 0 0) := (blk_cell HZ4.out 1).trans rfl; have f0 := blk_frozen HZ4.out 0; have f1 := blk_frozen HZ4.out 1; obtain ⟨A8, c8, rfl⟩ := S_slice hs2; obtain rfl : gs = gs2 := (Prod.mk.inj (Option.some.inj (HE3.out.symm.trans hd2))).1; have HS8 := Aside0.mk hs2; have HB4 := Aside0.mk hb2; clear hs2 hb2 hv2 hi2 hd2))
    have p0 := fun a b => put0 (a := a) (b := b) HZ4.out
    have p1 := fun a b => put1 (a := a) (b := b) HZ4.out
    have h1 : Below w.heap.size w w2 := below_then (B := w.heap.size) (below_alloc (Below.refl _ _) _) (by simp) (HB4.out.mono (by simp))
    refine bodyPost_ret (v := .agg #[.int .i64 (m : Int), .slice A8 gs.length c8]) (by simp [results, Try.results5, go_sem, p0, p1]) rfl ⟨_, rfl, S_put HZ4.out (S_lower HS8.out (by simp)), below_set (below_set h1 (Nat.le_refl _)) (Nat.le_refl _)⟩
  · cases h

end Go.Proofs.Ytgemfighmnnmeaa.Some
