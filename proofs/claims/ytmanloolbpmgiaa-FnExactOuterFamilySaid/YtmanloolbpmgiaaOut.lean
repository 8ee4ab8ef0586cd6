/- A family with a module as one holder: the predicate, and what is known of the rest. Contracts of the program's OuterFamily. Contract of the reference's OuterFamily. -/
import Derived.Test.YtmanloolbpmgiaaSub
import Derived.Test.YtmanloolbpmgiaaModF
import Derived.Test.YtmanloolbpmgiaaGx7
import Derived.Test.YtmanloolbpmgiaaIsMod
import Derived.Test.YtmanloolbpmgiaaModules
import Derived.Test.YtmanloolbpmgiaaSTab
import Derived.Test.YtmanloolbpmgiaaTabs
namespace Go.Proofs.Ytmanloolbpmgiaa.Out
open Go.RowKit Go.Lib Go.Proofs Go.Proofs.YtmanloolbpmgiaaW.PrintWords Go.Proofs.YtmanloolbpmgiaaW.PrintWords.Kd Go.Proofs.YtmanloolbpmgiaaW.PrintLast Go.Proofs.YtmanloolbpmgiaaW.PrintMore Go.Proofs.Ytmanloolbpmgiaa.G Go.Proofs.Ytmanloolbpmgiaa.Fam Go.Proofs.Ytmanloolbpmgiaa.Loops Go.Proofs.Ytmanloolbpmgiaa.Bits Go.Proofs.Ytmanloolbpmgiaa.Valid Go.Proofs.Ytmanloolbpmgiaa.FamLaw Go.Proofs.Ytmanloolbpmgiaa.Opens Go.Proofs.Ytmanloolbpmgiaa.ModN Go.Proofs.Ytmanloolbpmgiaa.ModF Go.Proofs.Ytmanloolbpmgiaa.SDual Go.Proofs.Ytmanloolbpmgiaa.Ref
set_option linter.unusedVariables false
set_option linter.unusedSimpArgs false
set_option maxRecDepth 100000

/-- The set that a set with a module in one stands for. -/
def outX (n : Nat) (g : List Int) (c : Nat) : Nat := if c.testBit (restG n g).length = true then spreadN (restG n g) c ||| bitsN g else spreadN (restG n g) c
def outP (n : Nat) (gs : List (List Int)) (g : List Int) (c : Nat) : Bool := openN gs (outX n g c)
theorem outX_lt {n : Nat} (hn : n ≤ 7) {g : List Int} (hg : isGroupN n g) (c : Nat) : outX n g c < 2 ^ n := by
  unfold outX
  split
  · exact Nat.or_lt_two_pow (spread_lt (restG_is hn g).1 c) (bitsN_lt hg.1)
  · exact spread_lt (restG_is hn g).1 c
theorem asc_len : ∀ (l : List Int) (a b : Int), l.Pairwise (· < ·) → (∀ x ∈ l, a ≤ x ∧ x < b) → a ≤ b → (l.length : Int) ≤ b - a := by
  intro l
  induction l with
  | nil => intro a b _ _ _; simp; omega
  | cons x l ih =>
    intro a b hp hb hab
    rw [List.pairwise_cons] at hp
    have hx := hb x List.mem_cons_self
    have := ih (x + 1) b hp.2 (fun y hy => ⟨by have := hp.1 y hy; omega, (hb y (List.mem_cons_of_mem _ hy)).2⟩) (by omega)
    simp only [List.length_cons]
    omega
theorem asc_less : ∀ (l : List Int) (a b z : Int), l.Pairwise (· < ·) → (∀ x ∈ l, a ≤ x ∧ x < b) → a ≤ z → z < b → z ∉ l → (l.length : Int) + 1 ≤ b - a := by
  intro l
  induction l with
  | nil => intro a b z _ _ _ _ _; simp; omega
  | cons x l ih =>
    intro a b z hp hb ha hz hn
    rw [List.pairwise_cons] at hp
    have hx := hb x List.mem_cons_self
    have hne : z ≠ x := fun e => hn (e ▸ List.mem_cons_self)
    have hl : ∀ y ∈ l, x + 1 ≤ y ∧ y < b := fun y hy => ⟨by have := hp.1 y hy; omega, (hb y (List.mem_cons_of_mem _ hy)).2⟩
    simp only [List.length_cons]
    by_cases h : x < z
    · have := ih (x + 1) b z hp.2 hl (by omega) hz (fun h' => hn (List.mem_cons_of_mem _ h'))
      omega
    · have := asc_len l (x + 1) b hp.2 hl (by omega)
      omega
theorem rest_len {n : Nat} (hn : n ≤ 7) {g : List Int} (hg : isGroupN n g) (h0 : 0 < g.length) : (restG n g).length + 1 ≤ n := by
  have hr := restG_is hn g
  have hx := hg.1 _ (getD_mem h0)
  have hno : g.getD 0 0 ∉ restG n g := by
    intro h
    have h1 : (bitsN (restG n g)).testBit (g.getD 0 0).toNat = true := by
      rw [bitsN_test, List.any_eq_true]
      exact ⟨_, h, decide_eq_true rfl⟩
    have h2 : (bitsN g).testBit (g.getD 0 0).toNat = true := by
      rw [bitsN_test, List.any_eq_true]
      exact ⟨_, getD_mem h0, decide_eq_true rfl⟩
    rw [restG_bits hn, rest_bit (bitsN_lt hg.1), h2] at h1
    simp at h1
  have := asc_less (restG n g) 0 n (g.getD 0 0) hr.2 (fun x hx => hr.1 x hx) hx.1 hx.2 hno
  omega

/-! ### the reference's loop over the holders -/
/-- The holders below h that are not in a list. -/
def outK (g : List Int) (h : Nat) : List Int := ((List.range h).filter fun j : Nat => !decide ((j : Int) ∈ g)).map (fun (j : Nat) => (j : Int))
theorem outK_succ (g : List Int) (h : Nat) : outK g (h + 1) = if (h : Int) ∈ g then outK g h else outK g h ++ [(h : Int)] := by
  unfold outK
  rw [List.range_succ, List.filter_append, List.map_append]
  by_cases e : (h : Int) ∈ g
  · rw [if_pos e]; simp [e]
  · rw [if_neg e]; simp [e]
theorem outK_len (g : List Int) (h : Nat) : (outK g h).length ≤ h := by
  unfold outK
  rw [List.length_map]
  have := List.length_filter_le (fun j : Nat => !decide ((j : Int) ∈ g)) (List.range h)
  simpa using this
theorem outK_all {n : Nat} (hn : n ≤ 7) {g : List Int} (hg : isGroupN n g) : outK g n = restG n g := by
  unfold outK restG groupN
  congr 1
  have h7 : List.range 7 = List.range n ++ (List.range (7 - n)).map (n + ·) := by rw [← List.range_add]; congr 1; omega
  rw [h7, List.filter_append]
  have h2 : ((List.range (7 - n)).map (n + ·)).filter (2 ^ n - 1 - bitsN g).testBit = [] := by
    rw [List.filter_eq_nil_iff]
    intro a ha
    obtain ⟨i, _, rfl⟩ := List.mem_map.1 ha
    rw [rest_bit (bitsN_lt hg.1), decide_eq_false (by omega)]
    simp
  rw [h2, List.append_nil]
  refine List.filter_congr (fun j hj => ?_)
  have hj := List.mem_range.1 hj
  rw [rest_bit (bitsN_lt hg.1), decide_eq_true hj, Bool.true_and]
  congr 1
  rw [Bool.eq_iff_iff, decide_eq_true_iff, bitsN_test, List.any_eq_true]
  constructor
  · intro h
    exact ⟨_, h, decide_eq_true (by simp)⟩
  · rintro ⟨x, hx, e⟩
    have h1 := hg.1 x hx
    have h2 := of_decide_eq_true e
    have h3 : x = (j : Int) := by omega
    exact h3 ▸ hx
theorem shas_loop (g : List Int) (x : Int) (hl : g.length ≤ 9223372036854775807) : ∀ (d i : Nat), i ≤ g.length → g.length - i = d → Ev (fun k => spec_l00Has.l0 k g x (i : Int)) (decide (x ∈ g.drop i)) := by
  intro d
  induction d with
  | zero =>
    intro i hi hd
    obtain rfl : i = g.length := by omega
    refine Ev.step (f := fun _ => some false) (fun k => by simp only [spec_l00Has.l0]; rw [if_neg (by omega)]) ?_
    rw [List.drop_length]
    exact Ev.now _
  | succ d ih =>
    intro i hi hd
    have hlt : i < g.length := by omega
    have h1 := ih (i + 1) (by omega) (by omega)
    rw [List.drop_eq_getElem_cons hlt]
    by_cases e : g[i] = x
    · refine Ev.step (f := fun _ => some true) (fun k => ?_) ?_
      · simp only [spec_l00Has.l0]
        rw [if_pos (by omega), if_pos (by omega), rd_nat]
        simp only [List.getD, List.getElem?_eq_getElem hlt, Option.getD_some]
        rw [if_pos e]
      · rw [decide_eq_true (by simp [e])]
        exact Ev.now _
    · refine Ev.step (fun k => ?_) (show Ev (fun k => spec_l00Has.l0 k g x ((i + 1 : Nat) : Int)) (decide (x ∈ g[i] :: g.drop (i + 1))) from ?_)
      · simp only [spec_l00Has.l0]
        rw [if_pos (by omega), if_pos (by omega), rd_nat]
        simp only [List.getD, List.getElem?_eq_getElem hlt, Option.getD_some]
        rw [if_neg e, wrap_id (by omega) (by omega)]
        rfl
      · rw [decide_eq_decide.2 (show x ∈ g[i] :: g.drop (i + 1) ↔ x ∈ g.drop (i + 1) from by rw [List.mem_cons]; exact ⟨fun h => h.resolve_left (fun h' => e h'.symm), .inr⟩)]
        exact h1
theorem shas_calls (A : Option Addr) (cap : Nat) (g : List Int) (x : Int) (W : World) (hC : Kd.C (Kd.int .i64) W A g.length g) (hcap : g.length ≤ cap) :
    Calls Try.prog 95 #[.slice A g.length cap, .int .i64 x] W fun e w' => e = .returned (.bool (decide (x ∈ g))) ∧ ∃ q, w' = W.drewN q := by
  have h := shas_loop g x hC.2.1 g.length 0 (Nat.zero_le _) rfl
  rw [List.drop_zero] at h
  obtain ⟨k, hk⟩ := h.rounds
  exact (spec_l00Has.calls k A cap g x _ W hC hcap hk).mono fun e w' ⟨he, hd⟩ => ⟨he, hd.out⟩
theorem sbits_calls (A : Option Addr) (cap : Nat) (g : List Int) (hg : ∀ x ∈ g, 0 ≤ x ∧ x < 7) (W : World) (hC : Kd.C (Kd.int .i64) W A g.length g) (hcap : g.length ≤ cap) :
    Calls Try.prog 97 #[.slice A g.length cap] W fun e w' => e = .returned (.int .i64 ((bitsN g : Nat) : Int)) ∧ ∃ q, w' = W.drewN q := by
  obtain ⟨k, hk⟩ := (bits_is g hC.2.1 hg).rounds
  exact (spec_l01Bits.calls k A cap g _ W hC hcap hk).mono fun e w' ⟨he, hd⟩ => ⟨he, hd.out⟩

end Go.Proofs.Ytmanloolbpmgiaa.Out

namespace Go.Proofs.Ytmanloolbpmgiaa.OutF
open Go.RowKit Go.Lib Go.Proofs Go.Proofs.YtmanloolbpmgiaaW.PrintWords Go.Proofs.YtmanloolbpmgiaaW.PrintWords.Kd Go.Proofs.YtmanloolbpmgiaaW.PrintLast Go.Proofs.YtmanloolbpmgiaaW.PrintMore Go.Proofs.Ytmanloolbpmgiaa.G Go.Proofs.Ytmanloolbpmgiaa.Fam Go.Proofs.Ytmanloolbpmgiaa.Loops Go.Proofs.Ytmanloolbpmgiaa.Bits Go.Proofs.Ytmanloolbpmgiaa.Valid Go.Proofs.Ytmanloolbpmgiaa.FamLaw Go.Proofs.Ytmanloolbpmgiaa.Opens Go.Proofs.Ytmanloolbpmgiaa.Idx Go.Proofs.Ytmanloolbpmgiaa.Sorting Go.Proofs.Ytmanloolbpmgiaa.Crowds Go.Proofs.Ytmanloolbpmgiaa.FamOf Go.Proofs.Ytmanloolbpmgiaa.Ops Go.Proofs.Ytmanloolbpmgiaa.ModN Go.Proofs.Ytmanloolbpmgiaa.ModF Go.Proofs.Ytmanloolbpmgiaa.IsMod Go.Proofs.Ytmanloolbpmgiaa.Modules Go.Proofs.Ytmanloolbpmgiaa.Sub Go.Proofs.Ytmanloolbpmgiaa.SubM Go.Proofs.Ytmanloolbpmgiaa.Out
set_option linter.unusedVariables false
set_option linter.unusedSimpArgs false

set_option maxHeartbeats 4000000 in
set_option maxRecDepth 100000 in
theorem outer1_calls (n : Nat) (A : Option Addr) (cap : Nat) (gs : List (List Int)) (hcap : gs.length ≤ cap) (hv : ValidF (n : Int) gs) (g : List Int) (hg : isGroupN n g) (h0 : 0 < g.length) (A' AR : Option Addr) (cap' cR : Nat) (BR BN BG BF : Nat) (W : World) (hR : RowBox W BR AR cR (restG n g)) (hN : W.cell? ⟨BN, 0, none⟩ = some (.int .i64 ((restG n g).length : Int))) (hF : FamBox W BF (n : Int) A cap gs) (hG : RowBox W BG A' cap' g) (c : Nat) (hc : c < 2 ^ ((restG n g).length + 1)) :
    Calls Try.prog 98 #[.int .u64 (c : Int), .pointer (some ⟨BR, 0, none⟩), .pointer (some ⟨BN, 0, none⟩), .pointer (some ⟨BG, 0, none⟩), .pointer (some ⟨BF, 0, none⟩)] W fun e w' => e = .returned (.bool (outP n gs g c)) ∧ Below W.heap.size W w' := by
  have hu := Try.underlying26
  have hn : n ≤ 7 := by have := hv.1; omega
  have hrl := rest_len hn hg h0
  have hss := smalls_of hv
  have hsr := small_of hn (restG_is hn g)
  have hsg := small_of hn hg
  have hc128 : c < 128 := Nat.lt_of_lt_of_le hc (two_pow_le (by omega))
  have hx128 : spreadN (restG n g) c < 128 := Nat.lt_of_lt_of_le (spread_lt (restG_is hn g).1 c) (two_pow_le hn)
  have hy128 : bitsN g < 128 := Nat.lt_of_lt_of_le (bitsN_lt hg.1) (two_pow_le hn)
  have HSP := fun W h1 => spread_calls AR cR (restG n g) hsr (by omega) c hc128 W h1 hR.2.2
  have HHAS := fun W => has_calls c (restG n g).length hc128 (by omega) W
  have HCO := fun W h1 => crowdOf_calls A' cap' g W h1 hG.2.2 hsg
  have HOP := fun d (hd : d < 128) W h => opens_calls (n : Int) A cap gs d W h hcap hss hd
  have cr0 := hR.1
  have cf0 := hF.1
  have cf1 := hF.2.1
  have cg0 := hG.1
  have HRC := Aside0.mk hR.2.1
  have HFC := Aside0.mk hF.2.2
  have HGC := Aside0.mk hG.2.1
  unfold outP outX
  have hor := u64_or_nat (spreadN (restG n g) c) (bitsN g) (by omega) (by omega)
  generalize spreadN (restG n g) c = x at *
  generalize bitsN g = y at *
  generalize restG n g = rs at *
  clear hR hF hG hv hg hss hsr hsg hrl
  cases ht : c.testBit rs.length with
  | true =>
    rw [ht] at HHAS
    have H1 := HOP (x ||| y) (or128 hx128 hy128)
    clear ht HOP
    simp only [if_true]
    go_enter Try.func98, Try.ntmps98
    go_wp2_with (first | (go_at_call 94; refine (HSP _ (by repeat (first | exact HRC.out | apply C_drewN | apply C_drew))).mono ?_; rintro e w' ⟨rfl, q1, rfl⟩) | (go_at_call 67; refine (HHAS _).mono ?_; rintro e w' ⟨rfl, q2, rfl⟩) | (go_at_call 62; refine (HCO _ (by repeat (first | exact HGC.out | apply C_drewN | apply C_drew))).mono ?_; rintro e w' ⟨rfl, q3, rfl⟩) | (go_at_call 61; refine (H1 _ (by repeat (first | exact HFC.out | apply C_drewN | apply C_drew))).mono ?_; rintro e w' ⟨rfl, hb⟩; have HB := below_then (B := W.heap.size) (show Below W.heap.size W _ from by repeat (first | exact Below.refl _ _ | apply below_drew | apply pw_below_drewN)) (by simp) hb; clear hb))
    go_ret
    exact ⟨rfl, HB⟩
  | false =>
    rw [ht] at HHAS
    have H1 := HOP x hx128
    clear ht HOP
    simp only [Bool.false_eq_true, if_false]
    go_enter Try.func98, Try.ntmps98
    go_wp2_with (first | (go_at_call 94; refine (HSP _ (by repeat (first | exact HRC.out | apply C_drewN | apply C_drew))).mono ?_; rintro e w' ⟨rfl, q1, rfl⟩) | (go_at_call 67; refine (HHAS _).mono ?_; rintro e w' ⟨rfl, q2, rfl⟩) | (go_at_call 61; refine (H1 _ (by repeat (first | exact HFC.out | apply C_drewN | apply C_drew))).mono ?_; rintro e w' ⟨rfl, hb⟩; have HB := below_then (B := W.heap.size) (show Below W.heap.size W _ from by repeat (first | exact Below.refl _ _ | apply below_drew | apply pw_below_drewN)) (by simp) hb; clear hb))
    go_ret
    exact ⟨rfl, HB⟩

set_option maxHeartbeats 4000000 in
set_option maxRecDepth 100000 in
theorem OuterFamily_bad (n : Int) (A : Option Addr) (cap : Nat) (gs : List (List Int)) (A' : Option Addr) (cap' : Nat) (g : List Int) (w : World) (hC : dR.C w A gs.length gs) (hcap : gs.length ≤ cap) (hC' : Kd.C (Kd.int .i64) w A' g.length g) (hcap' : g.length ≤ cap') (code : Int) (hm : modCode n gs g = code) (hc : code = 1 ∨ code = 2 ∨ code = 4) :
    Calls Try.prog 49 #[.agg #[.int .i64 n, .slice A gs.length cap], .slice A' g.length cap'] w (FamRes w 0 [] code) := by
  have hu := Try.underlying26
  have HV := fun W h h' => modCode_calls n A cap gs A' cap' g W h hcap h' hcap'
  rw [hm] at HV
  have HBX := Aside0.mk (subW_boxes w n A cap gs A' cap' g hC hC' hcap')
  have HWB := Aside0.mk (subW_below w n A cap gs A' cap' g)
  have HWS := Aside0.mk (subW_size w n A cap gs A' cap' g)
  have HCW := Aside0.mk (C_below hC HWB.out)
  have HGW := Aside0.mk (Kd.C_below hC' HWB.out)
  clear hC hC' hm
  rcases hc with rfl | rfl | rfl
  all_goals (
    go_enter Try.func49, Try.ntmps49
    go_wp2_with (fail)
    rw [show ((w.alloc (.cells #[.int .i64 n, .slice A gs.length cap] 26)).alloc (.cells #[.slice A' g.length cap'] 28)).alloc (.cells #[.int .i64 0, .slice none 0 0] 26) = subW w n A cap gs A' cap' g from rfl]
    go_wp2_with (go_at_call 91; refine (HV _ (C_below HCW.out ?_) (Kd.C_below HGW.out ?_)).mono ?_; (repeat (first | exact Below.refl _ _ | apply below_drew | apply pw_below_drewN)); rintro e w1 ⟨rfl, hb1⟩; have HB1 := Aside0.mk (below_then (B := (subW w n A cap gs A' cap' g).heap.size) (show Below (subW w n A cap gs A' cap' g).heap.size (subW w n A cap gs A' cap' g) _ from by repeat (first | exact Below.refl _ _ | apply below_drew | apply pw_below_drewN)) (by simp) hb1); clear hb1; have HX := Aside0.mk (HBX.out w1 HB1.out); have cf0 := HX.out.1.1; have cf1 := HX.out.1.2.1; have cg0 := HX.out.2.1.1; have z0 : w1.cell? ⟨w.heap.size + 1 + 1, 0, none⟩ = some (.int .i64 0) := (blk_cell HX.out.2.2 0).trans rfl; have z1 : w1.cell? ⟨w.heap.size + 1 + 1, 1, none⟩ = some (.slice none 0 0) := (blk_cell HX.out.2.2 1).trans rfl; have f0 := blk_frozen HX.out.2.2 0; have f1 := blk_frozen HX.out.2.2 1)
    have HZ := Aside0.mk HX.out.2.2
    have p0 := fun a b => put0 (a := a) (b := b) HZ.out
    have p1 := fun a b => put1 (a := a) (b := b) HZ.out
    have h1 : Below w.heap.size w w1 := below_then HWB.out (by have := HWS.out; omega) HB1.out
    refine bodyPost_ret (v := .tuple #[.agg #[.int .i64 0, .slice none 0 0], .int .i64 _]) (by simp [results, Try.results49, go_sem, p0, p1]) rfl ⟨_, rfl, S_nil _ _ _ _ _, ?_⟩
    exact below_set (below_set h1 (by omega)) (by omega))

set_option maxHeartbeats 4000000 in
set_option maxRecDepth 100000 in
theorem OuterFamily_yes (n : Nat) (A : Option Addr) (cap : Nat) (gs : List (List Int)) (A' : Option Addr) (cap' : Nat) (g : List Int) (w : World) (hC : dR.C w A gs.length gs) (hcap : gs.length ≤ cap) (hC' : Kd.C (Kd.int .i64) w A' g.length g) (hcap' : g.length ≤ cap') (hm : modCode (n : Int) gs g = 0) (hv : ValidF (n : Int) gs) (hg : isGroupN n g) (h0 : 0 < g.length) :
    Calls Try.prog 49 #[.agg #[.int .i64 (n : Int), .slice A gs.length cap], .slice A' g.length cap'] w (FamRes w ((restG n g).length + 1 : Int) (famN ((restG n g).length + 1) (outP n gs g)) 0) := by
  have hu := Try.underlying26
  have hn : n ≤ 7 := by have := hv.1; omega
  have hrl := rest_len hn hg h0
  have eg : ∀ args w, (callFunc 98 args).run Try.prog w = .ok (.enter 98 args) w := enters_of Try.func98 (by kernel_rfl) rfl
  have HV := fun W h h' => modCode_calls (n : Int) A cap gs A' cap' g W h hcap h' hcap'
  rw [hm] at HV
  have hO := fun W h => others_calls hn A' cap' hg W h hcap'
  have HF := fun W BR BN AR cR (hR : RowBox W BR AR cR (restG n g)) (hN : W.cell? ⟨BN, 0, none⟩ = some (.int .i64 ((restG n g).length : Int))) (hF : FamBox W w.heap.size (n : Int) A cap gs) (hG : RowBox W (w.heap.size + 1) A' cap' g) => familyOf_calls ((restG n g).length + 1) (by omega) 98 #[] #[.pointer (some ⟨BR, 0, none⟩), .pointer (some ⟨BN, 0, none⟩), .pointer (some ⟨w.heap.size + 1, 0, none⟩), .pointer (some ⟨w.heap.size, 0, none⟩)] eg (outP n gs g) W
    (fun W' c hbw hc => outer1_calls n A cap gs hcap hv g hg h0 A' AR cap' cR BR BN (w.heap.size + 1) w.heap.size W' (hR.later hbw) (pw_cell_below hbw hN) (hF.later hbw) (hG.later hbw) c hc)
  have hwr : wrap64 ((restG n g).length + 1 : Int) = ((restG n g).length + 1 : Int) := wrap_id (by omega) (by omega)
  simp only [Int.natCast_add, Int.natCast_one] at HF
  generalize hFF : famN ((restG n g).length + 1) (outP n gs g) = F at *
  have HFF := Aside0.mk hFF
  have HBX := Aside0.mk (subW_boxes w (n : Int) A cap gs A' cap' g hC hC' hcap')
  have HWB := Aside0.mk (subW_below w (n : Int) A cap gs A' cap' g)
  have HWS := Aside0.mk (subW_size w (n : Int) A cap gs A' cap' g)
  have HCW := Aside0.mk (C_below hC HWB.out)
  have HGW := Aside0.mk (Kd.C_below hC' HWB.out)
  clear hC hC' hm hFF hv h0
  go_enter Try.func49, Try.ntmps49
  go_wp2_with (fail)
  rw [show ((w.alloc (.cells #[.int .i64 (n : Int), .slice A gs.length cap] 26)).alloc (.cells #[.slice A' g.length cap'] 28)).alloc (.cells #[.int .i64 0, .slice none 0 0] 26) = subW w (n : Int) A cap gs A' cap' g from rfl]
  go_wp2_with (go_at_call 91; refine (HV _ (C_below HCW.out ?_) (Kd.C_below HGW.out ?_)).mono ?_; (repeat (first | exact Below.refl _ _ | apply below_drew | apply pw_below_drewN)); rintro e w1 ⟨rfl, hb1⟩; have HB1 := Aside0.mk (below_then (B := (subW w (n : Int) A cap gs A' cap' g).heap.size) (show Below (subW w (n : Int) A cap gs A' cap' g).heap.size (subW w (n : Int) A cap gs A' cap' g) _ from by repeat (first | exact Below.refl _ _ | apply below_drew | apply pw_below_drewN)) (by simp) hb1); clear hb1; have HX := Aside0.mk (HBX.out w1 HB1.out); have cf0 := HX.out.1.1; have cf1 := HX.out.1.2.1; have cg0 := HX.out.2.1.1)
  clear cf0 cf1 cg0
  (refine (hO _ (Kd.C_below HX.out.2.1.2.1 ?_)).mono ?_; (repeat (first | exact Below.refl _ _ | apply below_drew | apply pw_below_drewN)); rintro e w3 ⟨v3, rfl, hr3, hb3⟩; obtain ⟨A3, c3, rfl⟩ := R_slice hr3)
  have HB3 := Aside0.mk (below_then (B := (subW w (n : Int) A cap gs A' cap' g).heap.size) (show Below (subW w (n : Int) A cap gs A' cap' g).heap.size (subW w (n : Int) A cap gs A' cap' g) _ from by repeat (first | exact HB1.out | apply below_drew | apply pw_below_drewN)) (by have h_ := HB1.out.size; (try simp at h_ ⊢); omega) hb3)
  have HR3 := Aside0.mk (R_reads' hr3)
  clear hr3 hb3
  obtain ⟨W5, hW5⟩ : ∃ W5 : World, W5 = w3.alloc (.cells #[.slice A3 (restG n g).length c3] 28) := ⟨_, rfl⟩
  have HB5 := Aside0.mk (show Below (subW w (n : Int) A cap gs A' cap' g).heap.size (subW w (n : Int) A cap gs A' cap' g) W5 by rw [hW5]; exact below_alloc HB3.out _)
  have HX5 := Aside0.mk (HBX.out W5 HB5.out)
  have HR5 : Aside0 (RowBox W5 w3.heap.size A3 c3 (restG n g)) := ⟨by rw [hW5]; exact ⟨(blk_cell (blk_new w3 _) 0).trans rfl, Kd.C_alloc HR3.out.2.2 _, HR3.out.2.1⟩⟩
  have HW5 := Aside0.mk hW5
  clear hW5
  obtain ⟨W6, hW6⟩ : ∃ W6 : World, W6 = W5.alloc (.cells #[.int .i64 ((restG n g).length : Int)] 2) := ⟨_, rfl⟩
  have HB6a := Aside0.mk (show Below (subW w (n : Int) A cap gs A' cap' g).heap.size (subW w (n : Int) A cap gs A' cap' g) W6 by rw [hW6]; exact below_alloc HB5.out _)
  have HX6 := Aside0.mk (HBX.out W6 HB6a.out)
  have HR6 : Aside0 (RowBox W6 w3.heap.size A3 c3 (restG n g)) := ⟨by rw [hW6]; exact HR5.out.later (below_alloc (Below.refl _ _) _)⟩
  have HN6 : Aside0 (W6.cell? ⟨W5.heap.size, 0, none⟩ = some (.int .i64 ((restG n g).length : Int))) := ⟨by rw [hW6]; exact (blk_cell (blk_new W5 _) 0).trans rfl⟩
  have HW6 := Aside0.mk hW6
  clear hW6
  have cr0 := HR5.out.1
  have cn0 := HN6.out
  have HF5 := HF W6 w3.heap.size W5.heap.size A3 c3 HR6.out HN6.out HX6.out.1 HX6.out.2.1
  clear HF
  go_wp2_with (first | (rw [← HW5.out]) | (rw [← HW6.out]) | fail)
  (refine HF5.mono ?_; clear HF5; rintro e w6 ⟨v6, rfl, hs6, hb6⟩; obtain ⟨A6, c6, rfl⟩ := S_slice hs6; have HS6 := Aside0.mk hs6; have HB6 := Aside0.mk (below_then HB6a.out HB6a.out.size hb6); clear hs6 hb6 cr0 cn0)
  have HZ := Aside0.mk (HBX.out _ HB6.out).2.2
  have z0 : w6.cell? ⟨w.heap.size + 1 + 1, 0, none⟩ = some (.int .i64 0) := (blk_cell HZ.out 0).trans rfl
  have z1 : w6.cell? ⟨w.heap.size + 1 + 1, 1, none⟩ = some (.slice none 0 0) := (blk_cell HZ.out 1).trans rfl
  have f0 := blk_frozen HZ.out 0
  have f1 := blk_frozen HZ.out 1
  go_wp2_with (fail)
  have p0 := fun a b => put0 (a := a) (b := b) HZ.out
  have p1 := fun a b => put1 (a := a) (b := b) HZ.out
  refine bodyPost_ret (v := .tuple #[.agg #[.int .i64 ((restG n g).length + 1 : Int), .slice A6 F.length c6], .int .i64 0]) (by simp [results, Try.results49, go_sem, p0, p1]) rfl ⟨_, rfl, S_put HZ.out (S_lower HS6.out (below_then HWB.out HWB.out.size HB6a.out).size), ?_⟩
  exact below_set (below_set (below_then HWB.out HWB.out.size HB6.out) (by omega)) (by omega)

theorem modB_pos {n : Nat} {gs : List (List Int)} {g : List Int} (h : isModB n gs g = true) : 0 < g.length := by
  unfold isModB at h
  rw [Bool.and_eq_true] at h
  exact of_decide_eq_true h.1
/-- What OuterFamily answers. -/
def OutRes (n : Int) (gs : List (List Int)) (g : List Int) : Int × List (List Int) × Int :=
  if modCode n gs g = 0 then (((restG n.toNat g).length + 1 : Int), famN ((restG n.toNat g).length + 1) (outP n.toNat gs g), 0) else (0, [], modCode n gs g)
theorem OuterFamily_calls (n : Int) (A : Option Addr) (cap : Nat) (gs : List (List Int)) (A' : Option Addr) (cap' : Nat) (g : List Int) (w : World) (hC : dR.C w A gs.length gs) (hcap : gs.length ≤ cap) (hC' : Kd.C (Kd.int .i64) w A' g.length g) (hcap' : g.length ≤ cap') :
    Calls Try.prog 49 #[.agg #[.int .i64 n, .slice A gs.length cap], .slice A' g.length cap'] w (FamRes w (OutRes n gs g).1 (OutRes n gs g).2.1 (OutRes n gs g).2.2) := by
  unfold OutRes
  rcases modCode_cases n gs g with ⟨h0, hv, hg, hm⟩ | hc
  · rw [if_pos h0]
    have hr := hv.1
    obtain ⟨m, rfl⟩ : ∃ m : Nat, n = (m : Int) := ⟨n.toNat, by omega⟩
    rw [Int.toNat_natCast] at *
    exact OuterFamily_yes m A cap gs A' cap' g w hC hcap hC' hcap' h0 hv hg (modB_pos hm)
  · rw [if_neg (by omega)]
    exact OuterFamily_bad n A cap gs A' cap' g w hC hcap hC' hcap' _ rfl hc


end Go.Proofs.Ytmanloolbpmgiaa.OutF

namespace Go.Proofs.Ytmanloolbpmgiaa.SOut
open Go.RowKit Go.Lib Go.Proofs Go.Proofs.YtmanloolbpmgiaaW.PrintWords Go.Proofs.YtmanloolbpmgiaaW.PrintWords.Kd Go.Proofs.YtmanloolbpmgiaaW.PrintLast Go.Proofs.YtmanloolbpmgiaaW.PrintMore Go.Proofs.Ytmanloolbpmgiaa.G Go.Proofs.Ytmanloolbpmgiaa.Fam Go.Proofs.Ytmanloolbpmgiaa.Loops Go.Proofs.Ytmanloolbpmgiaa.Bits Go.Proofs.Ytmanloolbpmgiaa.Sorting Go.Proofs.Ytmanloolbpmgiaa.Crowds Go.Proofs.Ytmanloolbpmgiaa.Sorted Go.Proofs.Ytmanloolbpmgiaa.Idx Go.Proofs.Ytmanloolbpmgiaa.Valid Go.Proofs.Ytmanloolbpmgiaa.FamLaw Go.Proofs.Ytmanloolbpmgiaa.Opens Go.Proofs.Ytmanloolbpmgiaa.Ops Go.Proofs.Ytmanloolbpmgiaa.From Go.Proofs.Ytmanloolbpmgiaa.Ref Go.Proofs.Ytmanloolbpmgiaa.Ok Go.Proofs.Ytmanloolbpmgiaa.SDual Go.Proofs.Ytmanloolbpmgiaa.SOpen Go.Proofs.Ytmanloolbpmgiaa.ModN Go.Proofs.Ytmanloolbpmgiaa.ModF Go.Proofs.Ytmanloolbpmgiaa.SMod Go.Proofs.Ytmanloolbpmgiaa.Sub Go.Proofs.Ytmanloolbpmgiaa.SubM Go.Proofs.Ytmanloolbpmgiaa.SSub Go.Proofs.Ytmanloolbpmgiaa.SSubM Go.Proofs.Ytmanloolbpmgiaa.Out Go.Proofs.Ytmanloolbpmgiaa.OutF
set_option linter.unusedVariables false
set_option linter.unusedSimpArgs false

set_option maxHeartbeats 4000000 in
set_option maxRecDepth 100000 in
theorem SOuterFamily_bad (n : Int) (A : Option Addr) (cap : Nat) (gs : List (List Int)) (A' : Option Addr) (cap' : Nat) (g : List Int) (w : World) (hC : dR.C w A gs.length gs) (hcap : gs.length ≤ cap) (hC' : Kd.C (Kd.int .i64) w A' g.length g) (hcap' : g.length ≤ cap') (code : Int) (hm : modCode n gs g = code) (hc : code = 1 ∨ code = 2 ∨ code = 4) :
    Calls Try.prog 48 #[.agg #[.int .i64 n, .slice A gs.length cap], .slice A' g.length cap'] w (FamRes w 0 [] code) := by
  have hu := Try.underlying26
  have HV := asked_calls w.heap.size n gs A' cap' g w (sW w n A cap gs) (sW_is w n A cap gs hC).1 (sW_below w n A cap gs) (Kd.C_below hC' (sW_below w n A cap gs)) hcap' (row_old hC' _ (Nat.le_refl _))
  rw [hm] at HV
  have HZ0 := Aside0.mk (sW_is w n A cap gs hC).2
  clear hC hC' hm
  rcases hc with rfl | rfl | rfl
  all_goals (
    go_enter Try.func48, Try.ntmps48
    go_wp2_with (fail)
    rw [show (w.alloc (.cells #[.int .i64 n, .slice A gs.length cap] 26)).alloc (.cells #[.int .i64 0, .slice none 0 0] 26) = sW w n A cap gs from rfl]
    (refine HV.mono ?_; clear HV; rintro e w2 ⟨v2, own, rfl, _, hr2, hi2, hb2, hk2⟩; have HZ := Aside0.mk (hk2.blk HZ0.out (by omega) (by simp)); have z0 : w2.cell? ⟨w.heap.size + 1, 0, none⟩ = some (.int .i64 0) := (blk_cell HZ.out 0).trans rfl; have z1 : w2.cell? ⟨w.heap.size + 1, 1, none⟩ = some (.slice none 0 0) := (blk_cell HZ.out 1).trans rfl; have f0 := blk_frozen HZ.out 0; have f1 := blk_frozen HZ.out 1; obtain ⟨A2, c2, rfl⟩ := R_slice hr2; have HB2 := Aside0.mk hb2; clear hr2 hi2 hb2 hk2)
    go_wp2_with (fail)
    have p0 := fun a b => put0 (a := a) (b := b) HZ.out
    have p1 := fun a b => put1 (a := a) (b := b) HZ.out
    refine bodyPost_ret (v := .tuple #[.agg #[.int .i64 0, .slice none 0 0], .int .i64 _]) (by simp [results, Try.results48, go_sem, p0, p1]) rfl ⟨_, rfl, S_nil _ _ _ _ _, ?_⟩
    exact below_set (below_set HB2.out (by omega)) (by omega))

theorem isS_later {w0 W W' : World} {g : Nat} {n : Int} {gs : List (List Int)} (h : IsS26 w0 W g n gs) (hb : Below W.heap.size W W') : IsS26 w0 W' g n gs := by
  obtain ⟨A, c, h1, h2, h3⟩ := h
  exact ⟨A, c, blk_below h1 hb, h2, h3⟩
theorem infoI : (Try.prog.info? 2).map (fun i => (i.zero, i.size, i.bytes)) = some (some (.int .i64 0), 1, 8) := by kernel_rfl
theorem RI_still {W0 w3 w4 : World} {e g : Nat} {v : Value} {l : List Int} (h : Kd.R (Kd.int .i64) e w3 W0.heap.size (fun _ => True) v l) (hk : KeepBut w3 w4 g none) (hg : g < W0.heap.size) : Kd.R (Kd.int .i64) e w4 W0.heap.size (fun _ => True) v l :=
  R_mono (R_keep (R_mono (R_bound h) (fun k hk => hk.2.1)) hk (fun k hk => by have : W0.heap.size ≤ k := hk; omega)) (fun _ _ => trivial)
theorem top_is {c h : Nat} (hc : c < 2 ^ (h + 1)) : (c : Int) / 2 ^ h = if c.testBit h then 1 else 0 := by
  have h1 : c / 2 ^ h < 2 := by rw [Nat.div_lt_iff_lt_mul (Nat.two_pow_pos h)]; rw [Nat.pow_succ] at hc; omega
  have h2 : c.testBit h = decide (c / 2 ^ h % 2 = 1) := Nat.testBit_eq_decide_div_mod_eq
  have h3 : (c : Int) / 2 ^ h = ((c / 2 ^ h : Nat) : Int) := by simp
  rw [h3, h2]
  generalize c / 2 ^ h = z at *
  have : z = 0 ∨ z = 1 := by omega
  rcases this with rfl | rfl <;> simp

set_option maxHeartbeats 16000000 in
set_option maxRecDepth 100000 in
theorem SOuterFamily_yes (n : Nat) (A : Option Addr) (cap : Nat) (gs : List (List Int)) (A' : Option Addr) (cap' : Nat) (g : List Int) (w : World) (hC : dR.C w A gs.length gs) (hcap : gs.length ≤ cap) (hC' : Kd.C (Kd.int .i64) w A' g.length g) (hcap' : g.length ≤ cap') (hm : modCode (n : Int) gs g = 0) (hv : ValidF (n : Int) gs) (hg : isGroupN n g) (h0 : 0 < g.length) :
    Calls Try.prog 48 #[.agg #[.int .i64 (n : Int), .slice A gs.length cap], .slice A' g.length cap'] w (FamRes w ((restG n g).length + 1 : Int) (famN ((restG n g).length + 1) (outP n gs g)) 0) := by
  have hu := Try.underlying26
  have hut := Try.underlying91
  have hui := Try.underlying28
  have hn : n ≤ 7 := by have := hv.1; omega
  have hrl := rest_len hn hg h0
  have hrs := restG_is hn g
  have h7 : 2 ^ ((restG n g).length + 1) ≤ 128 := two_pow_le (by omega)
  have hsm := small_of hn hg
  have hsr := small_of hn hrs
  have hN7 := two_pow_le hn
  have HV := asked_calls w.heap.size (n : Int) gs A' cap' g w (sW w (n : Int) A cap gs) (sW_is w (n : Int) A cap gs hC).1 (sW_below w (n : Int) A cap gs) (Kd.C_below hC' (sW_below w (n : Int) A cap gs)) hcap' (row_old hC' _ (Nat.le_refl _))
  rw [hm, Int.toNat_natCast] at HV
  have HZ0 := Aside0.mk (sW_is w (n : Int) A cap gs hC).2
  have HF := fun W (A2 : Option Addr) cc hb hcc => FromF_calls (((restG n g).length + 1 : Nat) : Int) A2 cc (tab (outP n gs g) (2 ^ ((restG n g).length + 1))) _ _ W hb hcc (from_tabF (n := (restG n g).length + 1) (by omega) (outP n gs g))
  simp only [Int.natCast_add, Int.natCast_one] at HF
  have HHS := fun (h : Nat) W hc => shas_calls A' cap' g (h : Int) W hc hcap'
  have HBT := fun W hc => sbits_calls A' cap' g hsm W hc hcap'
  have HTB := fun W hI hB => l01Table_calls w.heap.size n hn gs (smalls_of hv) w W hI hB
  have HSP := fun c (hc : c < 2 ^ ((restG n g).length + 1)) AR cR W h hcR => sspread_calls AR cR (restG n g) hsr (by omega) c (by omega) W h hcR
  have hsh : wrap64 (2 * 2 ^ (restG n g).length) = ((2 ^ ((restG n g).length + 1) : Nat) : Int) := by
    rw [show (2 : Int) * 2 ^ (restG n g).length = ((2 ^ ((restG n g).length + 1) : Nat) : Int) from by simp [Int.pow_succ, Int.mul_comm]]
    generalize 2 ^ ((restG n g).length + 1) = z at h7
    exact wrap_id (by omega) (by omega)
  have hwu : IntKind.u64.wrap ((restG n g).length : Int) = ((restG n g).length : Int) := wu_is' (by omega)
  have hwr : wrap64 ((restG n g).length + 1 : Int) = ((restG n g).length + 1 : Int) := wrap_id (by omega) (by omega)
  have hx1 : ∀ c, spreadN (restG n g) c < 2 ^ n := fun c => spread_lt hrs.1 c
  have hy1 : bitsN g < 2 ^ n := bitsN_lt hg.1
  have htop := fun c (hc : c < 2 ^ ((restG n g).length + 1)) => top_is (h := (restG n g).length) hc
  have hT : ∀ c, c.testBit (restG n g).length = true → tb (tableN n gs) (spreadN (restG n g) c ||| bitsN g) = outP n gs g c ∧ spreadN (restG n g) c ||| bitsN g < 2 ^ n ∧ Go.bits .or .i64 ((spreadN (restG n g) c : Nat) : Int) ((bitsN g : Nat) : Int) = ((spreadN (restG n g) c ||| bitsN g : Nat) : Int) := fun c hc => by
    have hlt := Nat.or_lt_two_pow (hx1 c) hy1
    refine ⟨?_, hlt, or_i (Nat.lt_of_lt_of_le (hx1 c) hN7) (Nat.lt_of_lt_of_le hy1 hN7)⟩
    rw [tableN_at hlt]
    unfold outP outX
    rw [if_pos hc]
  have hTf : ∀ c, c.testBit (restG n g).length = false → tb (tableN n gs) (spreadN (restG n g) c) = outP n gs g c := fun c hc => by
    rw [tableN_at (hx1 c)]
    unfold outP outX
    rw [if_neg (by simp [hc])]
  have hKN := outK_all hn hg
  have HHT := Aside0.mk hT
  have HHF := Aside0.mk hTf
  have HX1 := Aside0.mk hx1
  have HTOP := Aside0.mk htop
  have HC' := Aside0.mk hC'
  have HKL := Aside0.mk (outK_len g)
  have HKS := Aside0.mk (outK_succ g)
  clear hC hC' hm hv hg hsm hsr hT hTf hx1 hy1 htop hrs
  generalize outP n gs g = P at *
  generalize restG n g = rs at *
  generalize hFF : famN (rs.length + 1) P = F at *
  have HFF := Aside0.mk hFF
  generalize hM : 2 ^ (rs.length + 1) = M at *
  have HM := Aside0.mk hM
  generalize 2 ^ n = NN at *
  generalize tableN n gs = TT at *
  have HKN := Aside0.mk hKN
  clear hFF hM hKN
  go_enter Try.func48, Try.ntmps48
  go_wp2_with (fail)
  rw [show (w.alloc (.cells #[.int .i64 (n : Int), .slice A gs.length cap] 26)).alloc (.cells #[.int .i64 0, .slice none 0 0] 26) = sW w (n : Int) A cap gs from rfl]
  (refine HV.mono ?_; clear HV; rintro e w2 ⟨v2, own, rfl, _, hr2, hi2, hb2, hk2⟩; have HZ := Aside0.mk (hk2.blk HZ0.out (by omega) (by simp)); obtain ⟨A2, c2, rfl⟩ := R_slice hr2; have HB2 := Aside0.mk hb2; have HI2 := Aside0.mk hi2; have HS2 := Aside0.mk (blk_lt HZ.out); clear hr2 hi2 hb2 hk2)
  go_wp2_with (fail)
  go_loopg [8, 9] n (fun gg v8 v9 wr => ∃ (h : Nat) (u : Value), h ≤ n ∧ n - h ≤ gg ∧ v9 = .int .i64 (h : Int) ∧ u = v8 ∧ Aside0 (Kd.R (Kd.int .i64) 2 wr w2.heap.size (fun _ => True) u (outK g h)) ∧ Aside0 (Below w2.heap.size w2 wr))
  case atStart => exact ⟨0, _, Nat.zero_le _, by omega, rfl, rfl, ⟨S_R (S_empty (Kd.int .i64) _ w2 w2.heap.size (Nat.le_refl _))⟩, ⟨below_alloc (Below.refl _ _) _⟩⟩
  case round =>
    obtain ⟨h, u, hhn, hgg, rfl, rfl, HT, HB⟩ := hrel
    have HCG := Aside0.mk (Kd.C_below (Kd.C_below HC'.out HB2.out) HB.out)
    have HI := Aside0.mk (isS_later HI2.out HB.out)
    have hn0 := hold_of HI.out
    by_cases hlt : h < n
    · have hltz : (h : Int) < (n : Int) := by omega
      have hS := HHS h
      by_cases he : (h : Int) ∈ g
      · rw [decide_eq_true he] at hS
        have HE := Aside0.mk he
        clear he
        go_wp2_with (go_at_call 95; refine (hS _ (by repeat (first | exact HCG.out | apply C_drewN | apply C_drew))).mono ?_; rintro e w' ⟨rfl, q, rfl⟩)
        go_roundg (n - (h + 1))
        case measure => omega
        case rel => exact ⟨h + 1, _, by omega, by omega, by go_num, rfl, ⟨by rw [HKS.out, if_pos HE.out]; exact Kd.R_drewN HT.out q⟩, ⟨pw_below_drewN HB.out q⟩⟩
      · rw [decide_eq_false he] at hS
        have HE := Aside0.mk he
        have HL := Aside0.mk (HKL.out h)
        clear he
        go_wp2_with (first | (go_at_call 95; refine (hS _ (by repeat (first | exact HCG.out | apply C_drewN | apply C_drew))).mono ?_; rintro e w' ⟨rfl, q, rfl⟩) | (at_builtin; refine R_append (Kd.int .i64) (w0 := w2) (W := wr.drewN q) w2.heap.size rfl (.tmp 34) (.tmp 36) 28 2 (.int .i64 0) 8 rfl hui infoI rfl (by decide) (by decide) u (outK g h) (h : Int) [.int .i64 (h : Int)] (fun _ => True) (fun _ => False) rfl rfl rfl (fun _ hk => hk.elim) (fun _ _ => trivial) (Kd.R_drewN HT.out q) (pw_below_drewN HB.out q) (pw_below_drewN HB.out q).size ?hl ?_; (case hl => have := HL.out; omega); intro v6 w6 hR6 hB6 hg6 hat6; have HR6 := Aside0.mk hR6; have HB6 := Aside0.mk hB6; clear hR6 hB6 hg6 hat6))
        go_roundg (n - (h + 1))
        case measure => omega
        case rel => exact ⟨h + 1, _, by omega, by omega, by go_num, rfl, ⟨by rw [HKS.out, if_neg HE.out]; exact HR6.out⟩, HB6⟩
    · have hltz : ¬ (h : Int) < (n : Int) := by omega
      obtain rfl : h = n := by omega
      rw [HKN.out] at HT
      obtain ⟨AR, cR, rfl⟩ := R_slice HT.out
      have HBW := Aside0.mk (below_then HB2.out HB2.out.size HB.out)
      have hTB := HTB wr HI.out HBW.out
      go_wp2_with (go_at_call 96; refine hTB.mono ?_; clear hn0 hltz hTB; rintro e w4 ⟨T, cT, rfl, hcT, hCT, hi4, hb4, hk4⟩; have HCT := Aside0.mk hCT; have HCL := Aside0.mk hcT; have HZ4 := Aside0.mk (hk4.blk (blk_below HZ.out HB.out) (by omega) (by simp)); have HRR := Aside0.mk (R_reads' (RI_still HT.out hk4 (by have h_ := HS2.out; omega))); have HB4 := Aside0.mk hb4; clear hcT hCT hi4 hb4 hk4)
      go_loopg [11, 12, 13] M (fun gg v11 v12 v13 wr => ∃ (c : Nat) (u u13 : Value), c ≤ M ∧ M - c ≤ gg ∧ v12 = .int .i64 (c : Int) ∧ u = v11 ∧ u13 = v13 ∧ Aside0 (Kd.R Kd.bool 4 wr w4.heap.size (fun _ => True) u (tab P c)) ∧ Aside0 (Below w4.heap.size w4 wr))
      case atStart => exact ⟨0, _, _, Nat.zero_le _, by omega, rfl, rfl, rfl, ⟨S_R (S_empty Kd.bool _ w4 w4.heap.size (Nat.le_refl _))⟩, ⟨below_alloc (Below.refl _ _) _⟩⟩
      case round =>
        obtain ⟨c, u, u13, hcM, hgg, rfl, rfl, rfl, HT, HB⟩ := hrel
        by_cases hlt : c < M
        · have hltz : (c : Int) < (M : Int) := by omega
          have hS := fun W h => HSP c hlt AR cR W h HRR.out.2.1
          have HCG := Aside0.mk (Kd.C_below (Kd.C_below HC'.out HB4.out) HB.out)
          have HCR := Aside0.mk (Kd.C_below HRR.out.2.2 HB.out)
          have hCT := Kd.C_below HCT.out HB.out
          have htp := HTOP.out c hlt
          have htl := tab_len P c
          have HTL := Aside0.mk htl
          clear htl
          cases ht : c.testBit rs.length with
          | true =>
            obtain ⟨e1, e2, hor⟩ := HHT.out c ht
            rw [ht, if_pos rfl] at htp
            clear ht
            generalize spreadN rs c = x at *
            generalize x ||| bitsN g = y at *
            generalize bitsN g = b at *
            obtain ⟨ad, rfl, hc0⟩ := tab_cell hCT e2
            rw [e1] at hc0
            have hyz : (y : Int) < (NN : Int) := by omega
            clear e1 e2 hCT
            go_wp2_with (first | (go_at_call 89; refine (hS _ (by repeat (first | exact HCR.out | apply C_drewN | apply C_drew))).mono ?_; rintro e w' ⟨rfl, q, rfl⟩) | (go_at_call 97; refine (HBT _ (by repeat (first | exact HCG.out | apply C_drewN | apply C_drew))).mono ?_; rintro e w' ⟨rfl, q2, rfl⟩) | (at_builtin; refine R_append Kd.bool (w0 := w4) (W := wr.drewN (q + q2)) w4.heap.size rfl (.tmp 61) (.tmp 66) 91 4 (.bool false) 1 rfl hut infoB rfl (by decide) (by decide) u (tab P c) (P c) [.bool (P c)] (fun _ => True) (fun _ => False) rfl rfl rfl (fun _ hk => hk.elim) (fun _ _ => trivial) (Kd.R_drewN HT.out (q + q2)) (pw_below_drewN HB.out (q + q2)) (pw_below_drewN HB.out (q + q2)).size ?hl ?_; (case hl => have := HTL.out; omega); intro v6 w6 hR6 hB6 hg6 hat6; have HR6 := Aside0.mk hR6; have HB6 := Aside0.mk hB6; clear hR6 hB6 hg6 hat6))
            go_roundg (M - (c + 1))
            case measure => omega
            case rel => exact ⟨c + 1, _, _, by omega, by omega, by go_num, rfl, rfl, ⟨by rw [tab_succ]; exact HR6.out⟩, HB6⟩
          | false =>
            have e1 := HHF.out c ht
            have e2 := HX1.out c
            rw [ht, if_neg (by simp)] at htp
            clear ht
            generalize spreadN rs c = x at *
            obtain ⟨ad, rfl, hc0⟩ := tab_cell hCT e2
            rw [e1] at hc0
            have hyz : (x : Int) < (NN : Int) := by omega
            clear e1 e2 hCT
            go_wp2_with (first | (go_at_call 89; refine (hS _ (by repeat (first | exact HCR.out | apply C_drewN | apply C_drew))).mono ?_; rintro e w' ⟨rfl, q, rfl⟩) | (at_builtin; refine R_append Kd.bool (w0 := w4) (W := wr.drewN q) w4.heap.size rfl (.tmp 61) (.tmp 66) 91 4 (.bool false) 1 rfl hut infoB rfl (by decide) (by decide) u (tab P c) (P c) [.bool (P c)] (fun _ => True) (fun _ => False) rfl rfl rfl (fun _ hk => hk.elim) (fun _ _ => trivial) (Kd.R_drewN HT.out q) (pw_below_drewN HB.out q) (pw_below_drewN HB.out q).size ?hl ?_; (case hl => have := HTL.out; omega); intro v6 w6 hR6 hB6 hg6 hat6; have HR6 := Aside0.mk hR6; have HB6 := Aside0.mk hB6; clear hR6 hB6 hg6 hat6))
            go_roundg (M - (c + 1))
            case measure => omega
            case rel => exact ⟨c + 1, _, _, by omega, by omega, by go_num, rfl, rfl, ⟨by rw [tab_succ]; exact HR6.out⟩, HB6⟩
        · have hltz : ¬ (c : Int) < (M : Int) := by omega
          obtain rfl : c = M := by omega
          obtain ⟨AT, cT2, rfl⟩ := R_slice HT.out
          have HTR := Aside0.mk (R_reads' HT.out)
          go_wp2_with (go_at_call 90; refine (HF _ AT cT2 HTR.out.2.2 HTR.out.2.1).mono ?_; rintro e w6 ⟨v6, rfl, hs6, hb6⟩; obtain ⟨A6, c6, rfl⟩ := S_slice hs6; have HZ6 := Aside0.mk (blk_below (blk_below HZ4.out HB.out) hb6); have z0 : w6.cell? ⟨w.heap.size + 1, 0, none⟩ = some (.int .i64 0) := (blk_cell HZ6.out 0).trans rfl; have z1 : w6.cell? ⟨w.heap.size + 1, 1, none⟩ = some (.slice none 0 0) := (blk_cell HZ6.out 1).trans rfl; have f0 := blk_frozen HZ6.out 0; have f1 := blk_frozen HZ6.out 1; have HS6 := Aside0.mk hs6; have HW := Aside0.mk (below_then HB4.out HB4.out.size HB.out); have HW6 := Aside0.mk (below_then HW.out HW.out.size hb6); clear hs6 hb6)
          have p0 := fun a b => put0 (a := a) (b := b) HZ6.out
          have p1 := fun a b => put1 (a := a) (b := b) HZ6.out
          refine bodyPost_ret (v := .tuple #[.agg #[.int .i64 (rs.length + 1 : Int), .slice A6 F.length c6], .int .i64 0]) (by simp [results, Try.results48, go_sem, p0, p1]) rfl ⟨_, rfl, S_put HZ6.out (S_lower HS6.out HW.out.size), ?_⟩
          exact below_set (below_set HW6.out (by omega)) (by omega)
theorem SOuterFamily_calls (n : Int) (A : Option Addr) (cap : Nat) (gs : List (List Int)) (A' : Option Addr) (cap' : Nat) (g : List Int) (w : World) (hC : dR.C w A gs.length gs) (hcap : gs.length ≤ cap) (hC' : Kd.C (Kd.int .i64) w A' g.length g) (hcap' : g.length ≤ cap') :
    Calls Try.prog 48 #[.agg #[.int .i64 n, .slice A gs.length cap], .slice A' g.length cap'] w (FamRes w (OutRes n gs g).1 (OutRes n gs g).2.1 (OutRes n gs g).2.2) := by
  unfold OutRes
  rcases modCode_cases n gs g with ⟨h0, hv, hg, hm⟩ | hc
  · rw [if_pos h0]
    have hr := hv.1
    obtain ⟨m, rfl⟩ : ∃ m : Nat, n = (m : Int) := ⟨n.toNat, by omega⟩
    rw [Int.toNat_natCast] at *
    exact SOuterFamily_yes m A cap gs A' cap' g w hC hcap hC' hcap' h0 hv hg (modB_pos hm)
  · rw [if_neg (by omega)]
    exact SOuterFamily_bad n A cap gs A' cap' g w hC hcap hC' hcap' _ rfl hc


end Go.Proofs.Ytmanloolbpmgiaa.SOut
