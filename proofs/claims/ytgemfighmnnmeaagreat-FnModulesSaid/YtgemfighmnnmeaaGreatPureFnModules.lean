/- The plain law of FnModules: what the printed functions compute answers true. No program in sight. -/
import Derived.Test.YtgemfighmnnmeaaGreatGx11
import Derived.Test.YtgemfighmnnmeaaGreatModLaw
import Derived.Test.YtgemfighmnnmeaaGreatTHas
import Derived.Test.YtgemfighmnnmeaaGreatNest
import Derived.Test.YtgemfighmnnmeaaGreatSPut
import Derived.Test.YtgemfighmnnmeaaGreatSubF
import Derived.Test.YtgemfighmnnmeaaGreatOut
import Derived.Test.YtgemfighmnnmeaaGreatRenF
namespace Go.Proofs.YtgemfighmnnmeaaGreat.Pure
open Go.RowKit Go.Proofs.YtgemfighmnnmeaaGreatW.PrintWords Go.Proofs.YtgemfighmnnmeaaGreatW.PrintMore Go.Proofs.YtgemfighmnnmeaaGreat.G Go.Proofs.YtgemfighmnnmeaaGreat.Fam Go.Proofs.YtgemfighmnnmeaaGreat.Loops Go.Proofs.YtgemfighmnnmeaaGreat.Bits Go.Proofs.YtgemfighmnnmeaaGreat.Valid Go.Proofs.YtgemfighmnnmeaaGreat.FamLaw Go.Proofs.YtgemfighmnnmeaaGreat.RenLaw Go.Proofs.YtgemfighmnnmeaaGreat.TArg Go.Proofs.YtgemfighmnnmeaaGreat.TSame Go.Proofs.YtgemfighmnnmeaaGreat.Ref Go.Proofs.YtgemfighmnnmeaaGreat.Some Go.Proofs.YtgemfighmnnmeaaGreat.TMay Go.Proofs.YtgemfighmnnmeaaGreat.THas Go.Proofs.YtgemfighmnnmeaaGreat.ModN Go.Proofs.YtgemfighmnnmeaaGreat.ModF Go.Proofs.YtgemfighmnnmeaaGreat.Sub Go.Proofs.YtgemfighmnnmeaaGreat.Out Go.Proofs.YtgemfighmnnmeaaGreat.Put Go.Proofs.YtgemfighmnnmeaaGreat.Nest Go.Proofs.YtgemfighmnnmeaaGreat.Order Go.Proofs.YtgemfighmnnmeaaGreat.OrderLaw Go.Proofs.YtgemfighmnnmeaaGreat.ModLaw
set_option linter.unusedVariables false
set_option maxRecDepth 100000

/-! ### what is drawn -/
theorem lastG_succ (a j : Nat) : lastG a j ++ [((a + j : Nat) : Int)] = lastG a (j + 1) := by
 unfold lastG
 rw [List.range_succ, List.map_append]
 rfl
theorem lastG_len (a j : Nat) : (lastG a j).length = j := by unfold lastG; simp
theorem nest_loop (a b : Nat) (hab : a + b ≤ 7) (cd : List Int) (x1 x2 n : Int) (G : List (List Int)) : ∀ (d j : Nat), j + d = b → Ev (fun k => spec_l02Nested.l0 k ((a + b : Nat) : Int) (lastG a j) ((a + j : Nat) : Int) cd x1 x2 n G) (n, G, lastG a b, x1, x2) := by
 intro d
 induction d with
 | zero =>
  intro j hj
  obtain rfl : j = b := by omega
  refine Ev.step (f := fun _ => some (n, G, lastG a j, x1, x2)) (fun k => ?_) (Ev.now _)
  simp only [spec_l02Nested.l0]
  exact if_neg (by omega)
 | succ d ih =>
  intro j hj
  have h1 := ih (j + 1) (by omega)
  have hw : wrap64 (((a + j : Nat) : Int) + 1) = ((a + (j + 1) : Nat) : Int) := by rw [wrap_id (by omega) (by omega)]; omega
  rw [← lastG_succ] at h1
  refine Ev.step (fun k => ?_) h1
  simp only [spec_l02Nested.l0]
  rw [if_pos (by omega), if_pos (by rw [lastG_len]; omega), hw]
theorem nested_is (cd : List Int) (hcd : Bytes cd) : ∃ (a b h : Nat) (fs hs : List (List Int)), a ≤ 2 ∧ (1 ≤ b ∧ b ≤ 3) ∧ h ≤ a ∧ ValidF ((a + 1 : Nat) : Int) fs ∧ ValidF (b : Int) hs ∧ Ev (fun k => spec_A2Nested.f k cd) (((a + b : Nat) : Int), famN (a + b) (putP fs a h hs), lastG a b) := by
 obtain ⟨x, a2, s2, e1, x0, x1, a20, a21⟩ := pick_ok cd hcd 0 0 3 (by omega) (by omega) (by omega) (by omega)
 obtain ⟨a, rfl⟩ : ∃ a : Nat, x = (a : Int) := ⟨x.toNat, by omega⟩
 have hw1 : wrap64 (1 + (a : Int)) = ((a + 1 : Nat) : Int) := by rw [wrap_id (by omega) (by omega)]; omega
 obtain ⟨fs, a3, s3, e2, hvf, a30, a31⟩ := drawnS_ok cd hcd (a + 1) (by omega) (by omega) a2 s2 a20 (by omega)
 obtain ⟨y, a4, s4, e3, y0, y1, a40, a41⟩ := pick_ok cd hcd a3 s3 3 a30 (by omega) (by omega) (by omega)
 obtain ⟨b, hbe⟩ : ∃ b : Nat, 1 + y = (b : Int) := ⟨(1 + y).toNat, by omega⟩
 have hab : a + b ≤ 7 := by clear hw1; omega
 have hab0 : 0 + b = b := Nat.zero_add b
 have hw2 : wrap64 (1 + y) = (b : Int) := by rw [wrap_id (by omega) (by omega), hbe]
 obtain ⟨hs, a5, s5, e4, hvh, a50, a51⟩ := drawnS_ok cd hcd b (by omega) (by omega) a4 s4 a40 (by omega)
 obtain ⟨z, a6, s6, e5, z0, z1, a60, a61⟩ := pick_ok cd hcd a5 s5 ((a + 1 : Nat) : Int) a50 (by omega) (by omega) (by omega)
 obtain ⟨h, rfl⟩ : ∃ h : Nat, z = (h : Int) := ⟨z.toNat, by omega⟩
 refine ⟨a, b, h, fs, hs, by omega, ⟨by omega, by omega⟩, by omega, hvf, hvh, ?_⟩
 have hP : spec_PutFamily.f ((a + 1 : Nat) : Int) fs (h : Int) (b : Int) hs = some (((a + b : Nat) : Int), famN (a + b) (putP fs a h hs), 0) := by
  show some (PutErr.PutA _ _ _ _ _) = _
  unfold PutErr.PutA
  rw [if_pos ⟨hvf, hvh⟩, if_pos ⟨by omega, by omega⟩, if_pos (by omega)]
  rw [show ((a + 1 : Nat) : Int) - 1 = (a : Int) by omega, Int.toNat_natCast, Int.toNat_natCast, Int.toNat_natCast]
  rw [show (a : Int) + (b : Int) = ((a + b : Nat) : Int) by omega]
 have hwa : wrap64 (((a + 1 : Nat) : Int) - 1) = (a : Int) := by rw [wrap_id (by omega) (by omega)]; omega
 have hwn : wrap64 ((a : Int) + (b : Int)) = ((a + b : Nat) : Int) := by rw [wrap_id (by omega) (by omega)]; omega
 have hD1 : spec_l01Drawn.f cd a2 s2 ((a + 1 : Nat) : Int) = some (((a + 1 : Nat) : Int), fs, a3, s3) := e2
 have hD2 : spec_l01Drawn.f cd a4 s4 (b : Int) = some ((b : Int), hs, a5, s5) := e4
 have hloop := nest_loop a b hab cd a6 s6 ((a + b : Nat) : Int) (famN (a + b) (putP fs a h hs)) b 0 hab0
 have hl0 : lastG a 0 = [] := rfl
 rw [hl0, Nat.add_zero] at hloop
 have hN : ∀ k, spec_l02Nested.f k cd 0 0 = spec_l02Nested.l0 k ((a + b : Nat) : Int) [] (a : Int) cd a6 s6 ((a + b : Nat) : Int) (famN (a + b) (putP fs a h hs)) := by
  intro k
  unfold spec_l02Nested.f
  rw [e1, Option.bind_some]
  simp only [hw1]
  rw [hD1, Option.bind_some]
  simp only
  rw [e3, Option.bind_some]
  simp only [hw2]
  rw [hD2, Option.bind_some]
  simp only
  rw [e5, Option.bind_some]
  simp only
  rw [hP, Option.bind_some, hwa, hwn]
 have hN2 : Ev (fun k => spec_l02Nested.f k cd 0 0) (((a + b : Nat) : Int), famN (a + b) (putP fs a h hs), lastG a b, a6, s6) := by
  obtain ⟨K, hK⟩ := hloop
  exact ⟨K, fun k hk => (hN k).trans (hK k hk)⟩
 clear hN hloop hP hD1 hD2
 unfold spec_A2Nested.f
 rw [from0]
 simp only [Option.bind_some]
 exact Ev.bind hN2 (Ev.now _)

/-! ### the pieces -/
theorem ismod_is {n : Nat} {G : List (List Int)} (hv : ValidF (n : Int) G) {g : List Int} (hg : isGroupN n g) : Ev (fun k => impl_IsModule.f k (n : Int) G g) (isModB n G g, 0) := by
 have hn : n ≤ 7 := by have := hv.1; omega
 have hgl := glen hn hg
 unfold impl_IsModule.f
 have h1 := valid_is (n : Int) G (valid_lens hv).1 (valid_lens hv).2
 rw [decide_eq_true hv] at h1
 refine Ev.bind h1 ?_
 simp only [if_true]
 have h2 : Ev (fun k => impl_isGroup.f k (n : Int) g) true := ⟨g.length + 1, fun k hk => by show impl_isGroup.f k _ _ = _; rw [isGroup_is n g k (by omega) (by omega) (by omega), decide_eq_true hg]⟩
 refine Ev.bind h2 ?_
 have h3 : impl_Family_isModule.f (n : Int) G g = some (isModB n G g) := by
  show IsMod.isModF _ _ _ = _
  unfold IsMod.isModF
  rw [if_pos ⟨hv, by rw [Int.toNat_natCast]; exact hg⟩, Int.toNat_natCast]
 simp only [if_true, h3, Option.bind_some]
 exact Ev.now _
theorem rest_last_all : ∀ a : Fin 3, ∀ b : Fin 4, restL (lastG a.val b.val) (a.val + b.val) = 2 ^ a.val - 1 := by decide +kernel
def idL (n : Nat) : List Int := (List.range n).map fun k : Nat => (k : Int)
theorem order_all : ∀ a : Fin 3, ∀ b : Fin 4, groupN (2 ^ a.val - 1) ++ lastG a.val b.val = idL (a.val + b.val) := by decide +kernel
theorem idL_ok : ∀ n : Fin 8, OrderOk ((n.val : Nat) : Int) (idL n.val) := by decide +kernel
theorem idL_img : ∀ n : Fin 6, ∀ c : Fin 32, c.val < 2 ^ n.val → imgB n.val (ordN (idL n.val)) c.val = c.val := by decide +kernel

theorem any_step {α : Type} (p : α → Bool) (d : α) (l : List α) {i : Nat} (hi : i < l.length) : (l.take (i + 1)).any p = ((l.take i).any p || p (l.getD i d)) := by
 rw [List.take_succ_eq_append_getElem hi, List.any_append]
 simp [List.getD, hi]
theorem list_loop (all : List (List Int)) (hl : all.length ≤ 1000) (hg : ∀ g ∈ all, g.length ≤ 1000) (o : List Int) (is : Bool) (n : Int) (G : List (List Int)) (r : Bool)
  (hend : Ev (fun k => laws_FnModules.l0 k all o is 0 (all.any fun g => decide (g = o)) (all.length : Int) n G) r) :
  ∀ (d i : Nat), i + d = all.length → Ev (fun k => laws_FnModules.l0 k all o is 0 ((all.take i).any fun g => decide (g = o)) (i : Int) n G) r := by
 intro d
 induction d with
 | zero =>
  intro i hi
  obtain rfl : i = all.length := by omega
  rw [List.take_length]
  exact hend
 | succ d ih =>
  intro i hi
  have hlt : i < all.length := by omega
  have h1 := ih (i + 1) (by omega)
  have hw : wrap64 ((i : Int) + 1) = ((i + 1 : Nat) : Int) := by rw [wrap_id (by omega) (by omega)]; omega
  have hmem : all.getD i [] ∈ all := by rw [List.getD_eq_getElem?_getD, List.getElem?_eq_getElem hlt]; exact List.getElem_mem hlt
  rw [any_step _ [] all hlt] at h1
  cases hb : (all.take i).any fun g => decide (g = o) with
  | true =>
   rw [hb, Bool.true_or] at h1
   refine Ev.step (fun k => ?_) h1
   simp only [laws_FnModules.l0, if_true]
   rw [if_pos (by omega), hw]
  | false =>
   rw [hb, Bool.false_or] at h1
   have hs := asame_is (all.getD i []) o (by have := hg _ hmem; omega)
   refine Ev.step (f := fun k => (laws_a2Same.f k (all.getD i []) o).bind fun t => laws_FnModules.l0 k all o is 0 t ((i + 1 : Nat) : Int) n G) (fun k => ?_) (Ev.bind hs h1)
   simp only [laws_FnModules.l0, Bool.false_eq_true, if_false]
   rw [if_pos (by omega), if_pos (by omega), hw, show rd_L1 all (i : Int) = all.getD i [] by simp [rd_L1]]
theorem crowd_lens {n : Nat} (hn : n ≤ 7) (p : Nat → Bool) : (crowdsN n p).length ≤ 1000 ∧ ∀ g ∈ crowdsN n p, g.length ≤ 1000 := by
 have h7 := two_pow_le hn
 constructor
 ·
  unfold crowdsN
  rw [List.length_mergeSort, List.length_map]
  have := List.length_filter_le p (List.range (2 ^ n))
  rw [List.length_range] at this
  omega
 ·
  intro g hg
  obtain ⟨c, hc, _, rfl⟩ := mem_crowdsN.1 hg
  have := glen hn (groupN_is hn hc)
  omega

theorem FnModules : laws_FnModules.Pure := by
 intro l0 l1 _ _ hw0 _ _ hw1
 refine Ev.rounds (g := fun k => laws_FnModules.f k l0 l1) ?_
 unfold laws_FnModules.f
 rw [long_is]
 simp only [Option.bind_some]
 by_cases hlong : l0.length > 3000 ∨ l1.length > 3000
 ·
  simp only [decide_eq_true hlong, if_true]; exact Ev.now true
 ·
  simp only [decide_eq_false hlong, Bool.false_eq_true, if_false]
  obtain ⟨a, b, h, fs, hs, ha, ⟨hb1, hb⟩, hh, hvf, hvh, hE⟩ := nested_is l0 (bytes_of hw0)
  refine Ev.bind hE ?_
  have hn : a + b ≤ 7 := by omega
  have hA := put_agree ha hb hb1 hvf hvh hh
  have hvG : ValidF ((a + b : Nat) : Int) (famN (a + b) (putP fs a h hs)) := famN_valid (by omega) hn (put_mono (by omega) hvf hvh hh)
  clear hE hvf hvh
  generalize famN (a + b) (putP fs a h hs) = G at *
  obtain ⟨hg, hm, hrest, hrl⟩ := last_is ha hb
  have hmod : isModB (a + b) G (lastG a b) = true := by
   unfold isModB
   rw [lastG_len, Bool.and_eq_true]
   exact ⟨decide_eq_true (by omega), (agree_iff (by rw [hm]; exact (full_is ha hb).2.2.1)).2 hA⟩
  have hmc : modCode ((a + b : Nat) : Int) G (lastG a b) = 0 := by
   unfold modCode
   rw [if_pos hvG, Int.toNat_natCast, if_pos hg, if_pos hmod]
  have hAll : impl_ModulesOf.f ((a + b : Nat) : Int) G = some (crowdsN (a + b) (Modules.modP (a + b) G), 0) := by
   show some (Modules.ModulesF _ _) = _
   unfold Modules.ModulesF
   rw [if_pos hvG, Int.toNat_natCast]
  have hIs := ismod_is hvG hg
  rw [hmod] at hIs
  have hS : impl_ModuleFamily.f ((a + b : Nat) : Int) G (lastG a b) = some ((b : Int), famN b (subP (a + b) G (lastG a b)), 0) := by
   show some (SubM.SubRes _ _ _) = _
   unfold SubM.SubRes
   rw [if_pos hmc, lastG_len, Int.toNat_natCast]
  have hO : impl_OuterFamily.f ((a + b : Nat) : Int) G (lastG a b) = some (((a + 1 : Nat) : Int), famN (a + 1) (outP (a + b) G (lastG a b)), 0) := by
   show some (OutF.OutRes _ _ _) = _
   unfold OutF.OutRes
   rw [if_pos hmc, Int.toNat_natCast, hrest, hrl]
   rfl
  have hvo : ValidF ((a + 1 : Nat) : Int) (famN (a + 1) (outP (a + b) G (lastG a b))) := famN_valid (by omega) (by omega) (out_mono hvG hg _)
  have hvm : ValidF (b : Int) (famN b (subP (a + b) G (lastG a b))) := famN_valid hb1 (by omega) (sub_mono hvG hg _)
  have hwp : wrap64 (((a + b : Nat) : Int) - ((lastG a b).length : Int)) = (a : Int) := by rw [lastG_len, wrap_id (by omega) (by omega)]; omega
  have hPut : impl_PutFamily.f ((a + 1 : Nat) : Int) (famN (a + 1) (outP (a + b) G (lastG a b))) (a : Int) (b : Int) (famN b (subP (a + b) G (lastG a b))) = some (((a + b : Nat) : Int), G, 0) := by
   show PutF _ _ _ _ _ = _
   unfold PutF
   rw [if_pos ⟨hvo, hvm, ⟨by omega, by omega⟩, by omega⟩]
   rw [show ((a + 1 : Nat) : Int) - 1 = (a : Int) by omega, Int.toNat_natCast, Int.toNat_natCast, put_back ha hb hb1 hvG hA]
   rw [show (a : Int) + (b : Int) = ((a + b : Nat) : Int) by omega]
  have hOth : Ev (fun k => laws_a2Others.f k (lastG a b) ((a + b : Nat) : Int)) (groupN (2 ^ a - 1)) := by
   have h1 := others_of (lastG a b) (by rw [lastG_len]; omega) (a + b) hn
   rwa [show restL (lastG a b) (a + b) = 2 ^ a - 1 from rest_last_all ⟨a, by omega⟩ ⟨b, by omega⟩] at h1
  have hord : groupN (2 ^ a - 1) ++ lastG a b = idL (a + b) := order_all ⟨a, by omega⟩ ⟨b, by omega⟩
  have hRen : impl_RenameHolders.f ((a + b : Nat) : Int) G (idL (a + b)) = some (((a + b : Nat) : Int), G, 0) := by
   show some (RenF.RenRes _ _ _) = _
   unfold RenF.RenRes
   rw [if_pos hvG, if_pos (idL_ok ⟨a + b, by omega⟩), Int.toNat_natCast]
   congr 3
   have hf5 : a + b < 6 := by omega
   have h32 := (full_is ha hb).1
   refine (famN_congr (fun c hc => ?_)).trans (famN_openN hn hvG)
   rw [show imgB (a + b) (ordN (idL (a + b))) c = c from idL_img ⟨a + b, hf5⟩ ⟨c, by omega⟩ hc]
  rw [hAll]
  simp only [Option.bind_some]
  refine Ev.bind hIs ?_
  simp only [hS, hO, Option.bind_some, hwp, hPut]
  refine Ev.bind hOth ?_
  have hlen : (groupN (2 ^ a - 1)).length + (lastG a b).length < 17592186044416 := by rw [hrl, lastG_len]; omega
  simp only [if_pos hlen, hord, hRen, Option.bind_some, if_true]
  refine Ev.bind (same_yes hvG hvG rfl) ?_
  obtain ⟨c, hc, hG2⟩ := group_drawn l1 (bytes_of hw1) (a + b) hn
  have hgc := groupN_is hn hc
  have hlc := glen hn hgc
  refine Ev.step (f := fun k => (spec_A2Group.f k l1 ((a + b : Nat) : Int)).bind fun t333 => ((impl_IsModule.f k ((a + b : Nat) : Int) G t333).bind fun bt336 => (laws_FnModules.l0 k (crowdsN (a + b) (Modules.modP (a + b) G)) t333 bt336.1 bt336.2 false 0 ((a + b : Nat) : Int) G))) (fun k => by simp only [laws_FnModules.j0, Bool.not_true, Bool.false_eq_true, if_false]) ?_
  refine Ev.bind hG2 (Ev.bind (ismod_is hvG hgc) ?_)
  obtain ⟨q1, q2⟩ := crowd_lens hn (Modules.modP (a + b) G)
  refine list_loop _ q1 q2 (groupN c) (isModB (a + b) G (groupN c)) ((a + b : Nat) : Int) G true ?_ _ 0 (Nat.zero_add _)
  rw [modP_list hn _ hc, show Modules.modP (a + b) G c = isModB (a + b) G (groupN c) from rfl]
  refine Ev.step (f := fun _ => some true) (fun k => ?_) (Ev.now _)
  simp only [laws_FnModules.l0]
  rw [if_neg (by omega), if_pos trivial, if_pos (by simp)]
  by_cases h1 : ((groupN c).length : Int) > 1
  ·
   rw [if_pos h1]
   by_cases h2 : ((groupN c).length : Int) < ((a + b : Nat) : Int)
   ·
    rw [if_pos h2]
   ·
    rw [if_neg h2, mod_all hvG hc (by omega), decide_eq_true (show ((groupN c).length : Int) > 0 by omega)]
    rfl
  ·
   rw [if_neg h1]
   by_cases h0 : (groupN c).length = 0
   ·
    rw [decide_eq_false (show ¬ ((groupN c).length : Int) > 0 by omega), List.length_eq_zero_iff.1 h0]
    rfl
   ·
    rw [mod_one hvG hc (by omega), decide_eq_true (show ((groupN c).length : Int) > 0 by omega)]
    rfl

end Go.Proofs.YtgemfighmnnmeaaGreat.Pure
