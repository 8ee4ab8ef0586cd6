/- The plain law of FnRename: what the printed functions compute answers true. No program in sight. -/
import Derived.Test.YtmanloolbpmgiaaGx8
import Derived.Test.YtmanloolbpmgiaaTRen
import Derived.Test.YtmanloolbpmgiaaTMay
import Derived.Test.YtmanloolbpmgiaaTHas0
import Derived.Test.YtmanloolbpmgiaaRenF
namespace Go.Proofs.Ytmanloolbpmgiaa.Pure
open Go.RowKit Go.Proofs.YtmanloolbpmgiaaW.PrintWords Go.Proofs.YtmanloolbpmgiaaW.PrintMore Go.Proofs.Ytmanloolbpmgiaa.G Go.Proofs.Ytmanloolbpmgiaa.Fam Go.Proofs.Ytmanloolbpmgiaa.Loops Go.Proofs.Ytmanloolbpmgiaa.Valid Go.Proofs.Ytmanloolbpmgiaa.FamLaw Go.Proofs.Ytmanloolbpmgiaa.TArg Go.Proofs.Ytmanloolbpmgiaa.TSame Go.Proofs.Ytmanloolbpmgiaa.Ref Go.Proofs.Ytmanloolbpmgiaa.Some Go.Proofs.Ytmanloolbpmgiaa.TMay Go.Proofs.Ytmanloolbpmgiaa.THas Go.Proofs.Ytmanloolbpmgiaa.Order Go.Proofs.Ytmanloolbpmgiaa.OrderLaw Go.Proofs.Ytmanloolbpmgiaa.RenLaw Go.Proofs.Ytmanloolbpmgiaa.RenFam Go.Proofs.Ytmanloolbpmgiaa.RenF Go.Proofs.Ytmanloolbpmgiaa.RenStep Go.Proofs.Ytmanloolbpmgiaa.TRen
set_option linter.unusedVariables false
set_option maxRecDepth 100000

theorem back_loop (n : Nat) (hn : n ≤ 7) (order : List Int) (ho : AllOnce n order) (l : List Int) (one : Int) (gs : List (List Int)) (n2 : Int) (hs : List (List Int)) (r : Bool)
    (hend : Ev (fun k => laws_FnRename.l0 k l order one (backL n order n) (n : Int) (n : Int) gs n2 hs) r) :
    ∀ (d i : Nat), i ≤ n → n - i = d → Ev (fun k => laws_FnRename.l0 k l order one (backL n order i) (i : Int) (n : Int) gs n2 hs) r := by
  intro d
  induction d with
  | zero =>
    intro i hi hd
    obtain rfl : i = n := by omega
    exact hend
  | succ d ih =>
    intro i hi hd
    have hat := ord_at ho (show i < n by omega)
    have hl := ho.1
    have hb := backL_len n order i
    have h1 := ih (i + 1) (by omega) (by omega)
    have hw : wrap64 ((i : Int) + 1) = ((i + 1 : Nat) : Int) := by rw [wrap_id (by omega) (by omega)]; omega
    rw [backL_succ] at h1
    refine Ev.step (fun k => ?_) h1
    simp only [laws_FnRename.l0]
    rw [if_pos (by omega), if_pos (by omega), if_pos (by omega), rd_nat, hat.2, if_pos (by omega), if_pos (by omega), hw, Int.toNat_natCast]
theorem old_loop (n : Nat) (hn : n ≤ 7) (back : List Int) (hb : AllOnce n back) (c : Nat) (one two : Int) (gs : List (List Int)) (n2 : Int) (hs : List (List Int)) (n3 : Int) (ys : List (List Int)) (r : Bool)
    (hend : Ev (fun k => laws_FnRename.l1 k one back two (groupN c) (groupN (renB n (ordN back) c)) (n : Int) (n : Int) gs n2 hs n3 ys) r) :
    ∀ (d h : Nat), h ≤ n → n - h = d → Ev (fun k => laws_FnRename.l1 k one back two (groupN c) (groupN (renB h (ordN back) c)) (h : Int) (n : Int) gs n2 hs n3 ys) r := by
  intro d
  induction d with
  | zero =>
    intro h hh hd
    obtain rfl : h = n := by omega
    exact hend
  | succ d ih =>
    intro h hh hd
    have hat := ord_at hb (show h < n by omega)
    have hl := hb.1
    have h1 := ih (h + 1) (by omega) (by omega)
    have hw : wrap64 ((h : Int) + 1) = ((h + 1 : Nat) : Int) := by rw [wrap_id (by omega) (by omega)]; omega
    have hG := has_group (c := c) (h := ordN back h) (by omega)
    have hlen := group_len (renB h (ordN back) c)
    rw [ren_step back c h (by omega) (ren_lt h _ _)] at h1
    refine Ev.step (f := fun k => (laws_a2Has.f k (groupN c) (ordN back h : Int)).bind fun t281 => (if t281 = true then (laws_FnRename.l1 k one back two (groupN c) (groupN (renB h (ordN back) c) ++ [(h : Int)]) ((h + 1 : Nat) : Int) (n : Int) gs n2 hs n3 ys) else (laws_FnRename.l1 k one back two (groupN c) (groupN (renB h (ordN back) c)) ((h + 1 : Nat) : Int) (n : Int) gs n2 hs n3 ys))) (fun k => ?_) (Ev.bind hG ?_)
    · simp only [laws_FnRename.l1]
      rw [if_pos (by omega), if_pos (by omega), if_pos (by omega), rd_nat, hat.2, hw, if_pos (show (groupN (renB h (ordN back) c)).length < 17592186044416 by omega)]
    · cases hq : c.testBit (ordN back h) with
      | true =>
        rw [hq, if_pos rfl] at h1
        simpa using h1
      | false =>
        rw [hq, if_neg (by simp)] at h1
        simpa using h1

theorem FnRename : laws_FnRename.Pure := by
  intro l0 l1 _ _ hw0 _ _ hw1
  refine Ev.rounds (g := fun k => laws_FnRename.f k l0 l1) ?_
  unfold laws_FnRename.f
  rw [long_is]
  simp only [Option.bind_some]
  by_cases hlong : l0.length > 3000 ∨ l1.length > 3000
  · simp only [decide_eq_true hlong, if_true]; exact Ev.now true
  · simp only [decide_eq_false hlong, Bool.false_eq_true, if_false]
    obtain ⟨ni, gs, hf, hn1, hn5, hv⟩ := famF_ok l0 (bytes_of hw0)
    obtain ⟨n, rfl⟩ : ∃ n : Nat, ni = (n : Int) := ⟨ni.toNat, by omega⟩
    have hn : n ≤ 7 := by omega
    obtain ⟨order, ho, hO⟩ := order_drawn l1 (bytes_of hw1) n (by omega) hn
    have hok := good_order hn ho
    have hb := back_good hn ho
    have hbk := good_order hn hb
    have olt : ∀ k, k < n → ordN order k < n := fun k hk => (ord_at ho hk).1
    have blt : ∀ k, k < n → ordN (backL n order n) k < n := fun k hk => (ord_at hb hk).1
    have hbo : ∀ k, k < n → ordN (backL n order n) (ordN order k) = k := fun k hk => back_ord hn ho hk
    have hos := ord_surj hn hok
    have hob : ∀ k, k < n → ordN order (ordN (backL n order n) k) = k := fun k hk => by
      obtain ⟨j, hj, rfl⟩ := hos k hk
      rw [hbo j hj]
    have hm := ren_mono (open_mono hv) olt
    have hvg : ValidF (n : Int) (famN n (fun c => openN gs (imgB n (ordN order) c))) := famN_valid (by omega) hn hm
    have hR1 : impl_RenameHolders.f (n : Int) gs order = some ((n : Int), famN n (fun c => openN gs (imgB n (ordN order) c)), 0) := by
      show some (RenRes _ _ _) = _
      unfold RenRes
      rw [if_pos hv, if_pos hok, Int.toNat_natCast]
    have hR2 : impl_RenameHolders.f (n : Int) (famN n (fun c => openN gs (imgB n (ordN order) c))) (backL n order n) = some ((n : Int), gs, 0) := by
      show some (RenRes _ _ _) = _
      unfold RenRes
      rw [if_pos hvg, if_pos hbk, Int.toNat_natCast]
      congr 3
      rw [← famN_openN hn hv]
      refine famN_congr (fun c hc => ?_)
      rw [famN_openN hn hv, openN_famN hn hm (img_lt blt c)]
      show openN gs _ = _
      rw [img_img olt blt hob hc]
    rw [show spec_A2Family.f l0 = some ((n : Int), gs) from hf]
    simp only [Option.bind_some]
    refine Ev.bind hO ?_
    rw [hR1]
    simp only [Option.bind_some]
    have e0 : (0 : Int) ≤ (n : Int) := Int.natCast_nonneg n
    have e1 : n ≤ 35184372088832 := by omega
    simp only [if_pos e0, Int.toNat_natCast, if_pos e1]
    obtain ⟨c, hc, hG⟩ := group_drawn l0 (bytes_of hw0) n hn
    refine back_loop n hn order ho l0 0 gs (n : Int) _ true ?_ n 0 (Nat.zero_le _) rfl
    refine Ev.step (f := fun k => (impl_RenameHolders.f (n : Int) (famN n (fun c => openN gs (imgB n (ordN order) c))) (backL n order n)).bind fun bt268 => ((spec_A2Group.f k l0 (n : Int)).bind fun t274 => (laws_FnRename.l1 k 0 (backL n order n) bt268.2.2 t274 (([] : List Int)) 0 (n : Int) gs (n : Int) (famN n (fun c => openN gs (imgB n (ordN order) c))) bt268.1 bt268.2.1))) (fun k => by simp only [laws_FnRename.l0]; rw [if_neg (by omega)]) ?_
    rw [hR2]
    simp only [Option.bind_some]
    refine Ev.bind hG ?_
    have hloop := old_loop n hn (backL n order n) hb c 0 0 gs (n : Int) (famN n (fun c => openN gs (imgB n (ordN order) c))) (n : Int) gs true ?_ n 0 (Nat.zero_le _) rfl
    · have h0 : groupN (renB 0 (ordN (backL n order n)) c) = [] := by rw [show renB 0 (ordN (backL n order n)) c = 0 from rfl]; decide
      rw [h0] at hloop
      exact hloop
    · have hrl : renB n (ordN (backL n order n)) c < 2 ^ n := ren_lt n _ _
      refine Ev.step (fun k => by simp only [laws_FnRename.l1]; rw [if_neg (by omega)]) ?_
      refine Ev.bind (may_is hvg hc) ?_
      refine Ev.bind (may_is hv hrl) ?_
      rw [openN_famN hn hm hc]
      have he : imgB n (ordN order) c = renB n (ordN (backL n order n)) c := img_ren olt hbo hos c
      simp only [he, if_true, beq_self_eq_true]
      refine Ev.bind (same_yes hv hv rfl) ?_
      exact Ev.now true

end Go.Proofs.Ytmanloolbpmgiaa.Pure
