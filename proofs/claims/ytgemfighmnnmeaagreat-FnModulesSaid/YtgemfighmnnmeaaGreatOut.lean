/- A family with a module as one holder: the predicate, and what is known of the rest. Contracts of the program's OuterFamily. -/
import Derived.Test.YtgemfighmnnmeaaGreatSub
import Derived.Test.YtgemfighmnnmeaaGreatModF
import Derived.Test.YtgemfighmnnmeaaGreatIsMod
import Derived.Test.YtgemfighmnnmeaaGreatModules
namespace Go.Proofs.YtgemfighmnnmeaaGreat.Out
open Go.RowKit Go.Lib Go.Proofs Go.Proofs.YtgemfighmnnmeaaGreatW.PrintWords Go.Proofs.YtgemfighmnnmeaaGreatW.PrintWords.Kd Go.Proofs.YtgemfighmnnmeaaGreatW.PrintLast Go.Proofs.YtgemfighmnnmeaaGreatW.PrintMore Go.Proofs.YtgemfighmnnmeaaGreat.G Go.Proofs.YtgemfighmnnmeaaGreat.Fam Go.Proofs.YtgemfighmnnmeaaGreat.Loops Go.Proofs.YtgemfighmnnmeaaGreat.Bits Go.Proofs.YtgemfighmnnmeaaGreat.Valid Go.Proofs.YtgemfighmnnmeaaGreat.FamLaw Go.Proofs.YtgemfighmnnmeaaGreat.Opens Go.Proofs.YtgemfighmnnmeaaGreat.ModN Go.Proofs.YtgemfighmnnmeaaGreat.ModF Go.Proofs.YtgemfighmnnmeaaGreat.SDual Go.Proofs.YtgemfighmnnmeaaGreat.Ref
set_option linter.unusedVariables false
set_option linter.unusedSimpArgs false
set_option maxRecDepth 100000

/-- The set that a set with a module in one stands for. -/
def outX (n : Nat) (g : List Int) (c : Nat) : Nat := if c.testBit (restG n g).length = true then spreadN (restG n g) c ||| bitsN g else spreadN (restG n g) c
def outP (n : Nat) (gs : List (List Int)) (g : List Int) (c : Nat) : Bool := openN gs (outX n g c)
theorem outX_lt {n : Nat} (hn : n ≤ 7) {g : List Int} (hg : isGroupN n g) (c : Nat) : outX n g c < 2 ^ n := by
 unfold outX
 split
 ·
  exact Nat.or_lt_two_pow (spread_lt (restG_is hn g).1 c) (bitsN_lt hg.1)
 ·
  exact spread_lt (restG_is hn g).1 c
theorem asc_len : ∀ (l : List Int) (a b : Int), l.Pairwise (· < ·) → (∀ x ∈ l, a ≤ x ∧ x < b) → a ≤ b → (l.length : Int) ≤ b - a := by
 intro l
 induction l with
 | nil => intro a b _ _ _; simp; omega
 | cons x l ih =>
  intro a b hp hb hab
  rw [List.pairwise_cons] at hp
  have hx := hb x List.mem_cons_self
  have := ih (x + 1) b hp.2 (fun y hy => ⟨by have := hp.1 y hy; omega, (hb y (List.mem_cons_of_mem _ hy)).2⟩) (by omega)
  simp only [List.length_cons]
  omega
theorem asc_less : ∀ (l : List Int) (a b z : Int), l.Pairwise (· < ·) → (∀ x ∈ l, a ≤ x ∧ x < b) → a ≤ z → z < b → z ∉ l → (l.length : Int) + 1 ≤ b - a := by
 intro l
 induction l with
 | nil => intro a b z _ _ _ _ _; simp; omega
 | cons x l ih =>
  intro a b z hp hb ha hz hn
  rw [List.pairwise_cons] at hp
  have hx := hb x List.mem_cons_self
  have hne : z ≠ x := fun e => hn (e ▸ List.mem_cons_self)
  have hl : ∀ y ∈ l, x + 1 ≤ y ∧ y < b := fun y hy => ⟨by have := hp.1 y hy; omega, (hb y (List.mem_cons_of_mem _ hy)).2⟩
  simp only [List.length_cons]
  by_cases h : x < z
  ·
   have := ih (x + 1) b z hp.2 hl (by omega) hz (fun h' => hn (List.mem_cons_of_mem _ h'))
   omega
  ·
   have := asc_len l (x + 1) b hp.2 hl (by omega)
   omega
theorem rest_len {n : Nat} (hn : n ≤ 7) {g : List Int} (hg : isGroupN n g) (h0 : 0 < g.length) : (restG n g).length + 1 ≤ n := by
 have hr := restG_is hn g
 have hx := hg.1 _ (getD_mem h0)
 have hno : g.getD 0 0 ∉ restG n g := by
  intro h
  have h1 : (bitsN (restG n g)).testBit (g.getD 0 0).toNat = true := by
   rw [bitsN_test, List.any_eq_true]
   exact ⟨_, h, decide_eq_true rfl⟩
  have h2 : (bitsN g).testBit (g.getD 0 0).toNat = true := by
   rw [bitsN_test, List.any_eq_true]
   exact ⟨_, getD_mem h0, decide_eq_true rfl⟩
  rw [restG_bits hn, rest_bit (bitsN_lt hg.1), h2] at h1
  simp at h1
 have := asc_less (restG n g) 0 n (g.getD 0 0) hr.2 (fun x hx => hr.1 x hx) hx.1 hx.2 hno
 omega

/-! ### the reference's loop over the holders -/
/-- The holders below h that are not in a list. -/
def outK (g : List Int) (h : Nat) : List Int := ((List.range h).filter fun j : Nat => !decide ((j : Int) ∈ g)).map (fun (j : Nat) => (j : Int))
theorem outK_succ (g : List Int) (h : Nat) : outK g (h + 1) = if (h : Int) ∈ g then outK g h else outK g h ++ [(h : Int)] := by
 unfold outK
 rw [List.range_succ, List.filter_append, List.map_append]
 by_cases e : (h : Int) ∈ g
 ·
  rw [if_pos e]; simp [e]
 ·
  rw [if_neg e]; simp [e]
theorem outK_len (g : List Int) (h : Nat) : (outK g h).length ≤ h := by
 unfold outK
 rw [List.length_map]
 have := List.length_filter_le (fun j : Nat => !decide ((j : Int) ∈ g)) (List.range h)
 simpa using this
theorem outK_all {n : Nat} (hn : n ≤ 7) {g : List Int} (hg : isGroupN n g) : outK g n = restG n g := by
 unfold outK restG groupN
 congr 1
 have h7 : List.range 7 = List.range n ++ (List.range (7 - n)).map (n + ·) := by rw [← List.range_add]; congr 1; omega
 rw [h7, List.filter_append]
 have h2 : ((List.range (7 - n)).map (n + ·)).filter (2 ^ n - 1 - bitsN g).testBit = [] := by
  rw [List.filter_eq_nil_iff]
  intro a ha
  obtain ⟨i, _, rfl⟩ := List.mem_map.1 ha
  rw [rest_bit (bitsN_lt hg.1), decide_eq_false (by omega)]
  simp
 rw [h2, List.append_nil]
 refine List.filter_congr (fun j hj => ?_)
 have hj := List.mem_range.1 hj
 rw [rest_bit (bitsN_lt hg.1), decide_eq_true hj, Bool.true_and]
 congr 1
 rw [Bool.eq_iff_iff, decide_eq_true_iff, bitsN_test, List.any_eq_true]
 constructor
 ·
  intro h
  exact ⟨_, h, decide_eq_true (by simp)⟩
 ·
  rintro ⟨x, hx, e⟩
  have h1 := hg.1 x hx
  have h2 := of_decide_eq_true e
  have h3 : x = (j : Int) := by omega
  exact h3 ▸ hx

end Go.Proofs.YtgemfighmnnmeaaGreat.Out

namespace Go.Proofs.YtgemfighmnnmeaaGreat.OutF
open Go.RowKit Go.Lib Go.Proofs Go.Proofs.YtgemfighmnnmeaaGreatW.PrintWords Go.Proofs.YtgemfighmnnmeaaGreatW.PrintWords.Kd Go.Proofs.YtgemfighmnnmeaaGreatW.PrintLast Go.Proofs.YtgemfighmnnmeaaGreatW.PrintMore Go.Proofs.YtgemfighmnnmeaaGreat.G Go.Proofs.YtgemfighmnnmeaaGreat.Fam Go.Proofs.YtgemfighmnnmeaaGreat.Loops Go.Proofs.YtgemfighmnnmeaaGreat.Bits Go.Proofs.YtgemfighmnnmeaaGreat.Valid Go.Proofs.YtgemfighmnnmeaaGreat.FamLaw Go.Proofs.YtgemfighmnnmeaaGreat.Opens Go.Proofs.YtgemfighmnnmeaaGreat.Idx Go.Proofs.YtgemfighmnnmeaaGreat.Sorting Go.Proofs.YtgemfighmnnmeaaGreat.Crowds Go.Proofs.YtgemfighmnnmeaaGreat.FamOf Go.Proofs.YtgemfighmnnmeaaGreat.Ops Go.Proofs.YtgemfighmnnmeaaGreat.ModN Go.Proofs.YtgemfighmnnmeaaGreat.ModF Go.Proofs.YtgemfighmnnmeaaGreat.IsMod Go.Proofs.YtgemfighmnnmeaaGreat.Modules Go.Proofs.YtgemfighmnnmeaaGreat.Sub Go.Proofs.YtgemfighmnnmeaaGreat.SubM Go.Proofs.YtgemfighmnnmeaaGreat.Out
set_option linter.unusedVariables false
set_option linter.unusedSimpArgs false

set_option maxHeartbeats 4000000 in
set_option maxRecDepth 100000 in
theorem outer1_calls (n : Nat) (A : Option Addr) (cap : Nat) (gs : List (List Int)) (hcap : gs.length ≤ cap) (hv : ValidF (n : Int) gs) (g : List Int) (hg : isGroupN n g) (h0 : 0 < g.length) (A' AR : Option Addr) (cap' cR : Nat) (BR BN BG BF : Nat) (W : World) (hR : RowBox W BR AR cR (restG n g)) (hN : W.cell? ⟨BN, 0, none⟩ = some (.int .i64 ((restG n g).length : Int))) (hF : FamBox W BF (n : Int) A cap gs) (hG : RowBox W BG A' cap' g) (c : Nat) (hc : c < 2 ^ ((restG n g).length + 1)) :
  Calls Tryz.prog 31 #[.int .u64 (c : Int), .pointer (some ⟨BR, 0, none⟩), .pointer (some ⟨BN, 0, none⟩), .pointer (some ⟨BG, 0, none⟩), .pointer (some ⟨BF, 0, none⟩)] W fun e w' => e = .returned (.bool (outP n gs g c)) ∧ Below W.heap.size W w' := by
 have hu := Tryz.underlying26
 have hn : n ≤ 7 := by have := hv.1; omega
 have hrl := rest_len hn hg h0
 have hss := smalls_of hv
 have hsr := small_of hn (restG_is hn g)
 have hsg := small_of hn hg
 have hc128 : c < 128 := Nat.lt_of_lt_of_le hc (two_pow_le (by omega))
 have hx128 : spreadN (restG n g) c < 128 := Nat.lt_of_lt_of_le (spread_lt (restG_is hn g).1 c) (two_pow_le hn)
 have hy128 : bitsN g < 128 := Nat.lt_of_lt_of_le (bitsN_lt hg.1) (two_pow_le hn)
 have HSP := fun W h1 => spread_calls AR cR (restG n g) hsr (by omega) c hc128 W h1 hR.2.2
 have HHAS := fun W => has_calls c (restG n g).length hc128 (by omega) W
 have HCO := fun W h1 => crowdOf_calls A' cap' g W h1 hG.2.2 hsg
 have HOP := fun d (hd : d < 128) W h => opens_calls (n : Int) A cap gs d W h hcap hss hd
 have cr0 := hR.1
 have cf0 := hF.1
 have cf1 := hF.2.1
 have cg0 := hG.1
 have HRC := Aside0.mk hR.2.1
 have HFC := Aside0.mk hF.2.2
 have HGC := Aside0.mk hG.2.1
 unfold outP outX
 have hor := u64_or_nat (spreadN (restG n g) c) (bitsN g) (by omega) (by omega)
 generalize spreadN (restG n g) c = x at *
 generalize bitsN g = y at *
 generalize restG n g = rs at *
 clear hR hF hG hv hg hss hsr hsg hrl
 cases ht : c.testBit rs.length with
 | true =>
  rw [ht] at HHAS
  have H1 := HOP (x ||| y) (or128 hx128 hy128)
  clear ht HOP
  simp only [if_true]
  go_enter Tryz.func31, Tryz.ntmps31
  go_wp2_with (first | (go_at_call 29; refine (HSP _ (by repeat (first | exact HRC.out | apply C_drewN | apply C_drew))).mono ?_; rintro e w' ⟨rfl, q1, rfl⟩) | (go_at_call 32; refine (HHAS _).mono ?_; rintro e w' ⟨rfl, q2, rfl⟩) | (go_at_call 33; refine (HCO _ (by repeat (first | exact HGC.out | apply C_drewN | apply C_drew))).mono ?_; rintro e w' ⟨rfl, q3, rfl⟩) | (go_at_call 30; refine (H1 _ (by repeat (first | exact HFC.out | apply C_drewN | apply C_drew))).mono ?_; rintro e w' ⟨rfl, hb⟩; have HB := below_then (B := W.heap.size) (show Below W.heap.size W _ from by repeat (first | exact Below.refl _ _ | apply below_drew | apply pw_below_drewN)) (by simp) hb; clear hb))
  go_ret
  exact ⟨rfl, HB⟩
 | false =>
  rw [ht] at HHAS
  have H1 := HOP x hx128
  clear ht HOP
  simp only [Bool.false_eq_true, if_false]
  go_enter Tryz.func31, Tryz.ntmps31
  go_wp2_with (first | (go_at_call 29; refine (HSP _ (by repeat (first | exact HRC.out | apply C_drewN | apply C_drew))).mono ?_; rintro e w' ⟨rfl, q1, rfl⟩) | (go_at_call 32; refine (HHAS _).mono ?_; rintro e w' ⟨rfl, q2, rfl⟩) | (go_at_call 30; refine (H1 _ (by repeat (first | exact HFC.out | apply C_drewN | apply C_drew))).mono ?_; rintro e w' ⟨rfl, hb⟩; have HB := below_then (B := W.heap.size) (show Below W.heap.size W _ from by repeat (first | exact Below.refl _ _ | apply below_drew | apply pw_below_drewN)) (by simp) hb; clear hb))
  go_ret
  exact ⟨rfl, HB⟩

set_option maxHeartbeats 4000000 in
set_option maxRecDepth 100000 in
theorem OuterFamily_bad (n : Int) (A : Option Addr) (cap : Nat) (gs : List (List Int)) (A' : Option Addr) (cap' : Nat) (g : List Int) (w : World) (hC : dR.C w A gs.length gs) (hcap : gs.length ≤ cap) (hC' : Kd.C (Kd.int .i64) w A' g.length g) (hcap' : g.length ≤ cap') (code : Int) (hm : modCode n gs g = code) (hc : code = 1 ∨ code = 2 ∨ code = 4) :
  Calls Tryz.prog 9 #[.agg #[.int .i64 n, .slice A gs.length cap], .slice A' g.length cap'] w (FamRes w 0 [] code) := by
 have hu := Tryz.underlying26
 have HV := fun W h h' => modCode_calls n A cap gs A' cap' g W h hcap h' hcap'
 rw [hm] at HV
 have HBX := Aside0.mk (subW_boxes w n A cap gs A' cap' g hC hC' hcap')
 have HWB := Aside0.mk (subW_below w n A cap gs A' cap' g)
 have HWS := Aside0.mk (subW_size w n A cap gs A' cap' g)
 have HCW := Aside0.mk (C_below hC HWB.out)
 have HGW := Aside0.mk (Kd.C_below hC' HWB.out)
 clear hC hC' hm
 rcases hc with rfl | rfl | rfl
 all_goals (
  go_enter Tryz.func9, Tryz.ntmps9
  go_wp2_with (fail)
  rw [show ((w.alloc (.cells #[.int .i64 n, .slice A gs.length cap] 26)).alloc (.cells #[.slice A' g.length cap'] 27)).alloc (.cells #[.int .i64 0, .slice none 0 0] 26) = subW w n A cap gs A' cap' g from rfl]
  go_wp2_with (go_at_call 24; refine (HV _ (C_below HCW.out ?_) (Kd.C_below HGW.out ?_)).mono ?_; (repeat (first | exact Below.refl _ _ | apply below_drew | apply pw_below_drewN)); rintro e w1 ⟨rfl, hb1⟩; have HB1 := Aside0.mk (below_then (B := (subW w n A cap gs A' cap' g).heap.size) (show Below (subW w n A cap gs A' cap' g).heap.size (subW w n A cap gs A' cap' g) _ from by repeat (first | exact Below.refl _ _ | apply below_drew | apply pw_below_drewN)) (by simp) hb1); clear hb1; have HX := Aside0.mk (HBX.out w1 HB1.out); have cf0 := HX.out.1.1; have cf1 := HX.out.1.2.1; have cg0 := HX.out.2.1.1; have z0 : w1.cell? ⟨w.heap.size + 1 + 1, 0, none⟩ = some (.int .i64 0) := (blk_cell HX.out.2.2 0).trans rfl; have z1 : w1.cell? ⟨w.heap.size + 1 + 1, 1, none⟩ = some (.slice none 0 0) := (blk_cell HX.out.2.2 1).trans rfl; have f0 := blk_frozen HX.out.2.2 0; have f1 := blk_frozen HX.out.2.2 1)
  have HZ := Aside0.mk HX.out.2.2
  have p0 := fun a b => put0 (a := a) (b := b) HZ.out
  have p1 := fun a b => put1 (a := a) (b := b) HZ.out
  have h1 : Below w.heap.size w w1 := below_then HWB.out (by have := HWS.out; omega) HB1.out
  refine bodyPost_ret (v := .tuple #[.agg #[.int .i64 0, .slice none 0 0], .int .i64 _]) (by simp [results, Tryz.results9, go_sem, p0, p1]) rfl ⟨_, rfl, S_nil _ _ _ _ _, ?_⟩
  exact below_set (below_set h1 (by omega)) (by omega))

set_option maxHeartbeats 4000000 in
set_option maxRecDepth 100000 in
theorem OuterFamily_yes (n : Nat) (A : Option Addr) (cap : Nat) (gs : List (List Int)) (A' : Option Addr) (cap' : Nat) (g : List Int) (w : World) (hC : dR.C w A gs.length gs) (hcap : gs.length ≤ cap) (hC' : Kd.C (Kd.int .i64) w A' g.length g) (hcap' : g.length ≤ cap') (hm : modCode (n : Int) gs g = 0) (hv : ValidF (n : Int) gs) (hg : isGroupN n g) (h0 : 0 < g.length) :
  Calls Tryz.prog 9 #[.agg #[.int .i64 (n : Int), .slice A gs.length cap], .slice A' g.length cap'] w (FamRes w ((restG n g).length + 1 : Int) (famN ((restG n g).length + 1) (outP n gs g)) 0) := by
 have hu := Tryz.underlying26
 have hn : n ≤ 7 := by have := hv.1; omega
 have hrl := rest_len hn hg h0
 have eg : ∀ args w, (callFunc 31 args).run Tryz.prog w = .ok (.enter 31 args) w := enters_of Tryz.func31 (by kernel_rfl) rfl
 have HV := fun W h h' => modCode_calls (n : Int) A cap gs A' cap' g W h hcap h' hcap'
 rw [hm] at HV
 have hO := fun W h => others_calls hn A' cap' hg W h hcap'
 have HF := fun W BR BN AR cR (hR : RowBox W BR AR cR (restG n g)) (hN : W.cell? ⟨BN, 0, none⟩ = some (.int .i64 ((restG n g).length : Int))) (hF : FamBox W w.heap.size (n : Int) A cap gs) (hG : RowBox W (w.heap.size + 1) A' cap' g) => familyOf_calls ((restG n g).length + 1) (by omega) 31 #[] #[.pointer (some ⟨BR, 0, none⟩), .pointer (some ⟨BN, 0, none⟩), .pointer (some ⟨w.heap.size + 1, 0, none⟩), .pointer (some ⟨w.heap.size, 0, none⟩)] eg (outP n gs g) W
  (fun W' c hbw hc => outer1_calls n A cap gs hcap hv g hg h0 A' AR cap' cR BR BN (w.heap.size + 1) w.heap.size W' (hR.later hbw) (pw_cell_below hbw hN) (hF.later hbw) (hG.later hbw) c hc)
 have hwr : wrap64 ((restG n g).length + 1 : Int) = ((restG n g).length + 1 : Int) := wrap_id (by omega) (by omega)
 simp only [Int.natCast_add, Int.natCast_one] at HF
 generalize hFF : famN ((restG n g).length + 1) (outP n gs g) = F at *
 have HFF := Aside0.mk hFF
 have HBX := Aside0.mk (subW_boxes w (n : Int) A cap gs A' cap' g hC hC' hcap')
 have HWB := Aside0.mk (subW_below w (n : Int) A cap gs A' cap' g)
 have HWS := Aside0.mk (subW_size w (n : Int) A cap gs A' cap' g)
 have HCW := Aside0.mk (C_below hC HWB.out)
 have HGW := Aside0.mk (Kd.C_below hC' HWB.out)
 clear hC hC' hm hFF hv h0
 go_enter Tryz.func9, Tryz.ntmps9
 go_wp2_with (fail)
 rw [show ((w.alloc (.cells #[.int .i64 (n : Int), .slice A gs.length cap] 26)).alloc (.cells #[.slice A' g.length cap'] 27)).alloc (.cells #[.int .i64 0, .slice none 0 0] 26) = subW w (n : Int) A cap gs A' cap' g from rfl]
 go_wp2_with (go_at_call 24; refine (HV _ (C_below HCW.out ?_) (Kd.C_below HGW.out ?_)).mono ?_; (repeat (first | exact Below.refl _ _ | apply below_drew | apply pw_below_drewN)); rintro e w1 ⟨rfl, hb1⟩; have HB1 := Aside0.mk (below_then (B := (subW w (n : Int) A cap gs A' cap' g).heap.size) (show Below (subW w (n : Int) A cap gs A' cap' g).heap.size (subW w (n : Int) A cap gs A' cap' g) _ from by repeat (first | exact Below.refl _ _ | apply below_drew | apply pw_below_drewN)) (by simp) hb1); clear hb1; have HX := Aside0.mk (HBX.out w1 HB1.out); have cf0 := HX.out.1.1; have cf1 := HX.out.1.2.1; have cg0 := HX.out.2.1.1)
 clear cf0 cf1 cg0
 (refine (hO _ (Kd.C_below HX.out.2.1.2.1 ?_)).mono ?_; (repeat (first | exact Below.refl _ _ | apply below_drew | apply pw_below_drewN)); rintro e w3 ⟨v3, rfl, hr3, hb3⟩; obtain ⟨A3, c3, rfl⟩ := R_slice hr3)
 have HB3 := Aside0.mk (below_then (B := (subW w (n : Int) A cap gs A' cap' g).heap.size) (show Below (subW w (n : Int) A cap gs A' cap' g).heap.size (subW w (n : Int) A cap gs A' cap' g) _ from by repeat (first | exact HB1.out | apply below_drew | apply pw_below_drewN)) (by have h_ := HB1.out.size; (try simp at h_ ⊢); omega) hb3)
 have HR3 := Aside0.mk (R_reads' hr3)
 clear hr3 hb3
 obtain ⟨W5, hW5⟩ : ∃ W5 : World, W5 = w3.alloc (.cells #[.slice A3 (restG n g).length c3] 27) := ⟨_, rfl⟩
 have HB5 := Aside0.mk (show Below (subW w (n : Int) A cap gs A' cap' g).heap.size (subW w (n : Int) A cap gs A' cap' g) W5 by rw [hW5]; exact below_alloc HB3.out _)
 have HX5 := Aside0.mk (HBX.out W5 HB5.out)
 have HR5 : Aside0 (RowBox W5 w3.heap.size A3 c3 (restG n g)) := ⟨by rw [hW5]; exact ⟨(blk_cell (blk_new w3 _) 0).trans rfl, Kd.C_alloc HR3.out.2.2 _, HR3.out.2.1⟩⟩
 have HW5 := Aside0.mk hW5
 clear hW5
 obtain ⟨W6, hW6⟩ : ∃ W6 : World, W6 = W5.alloc (.cells #[.int .i64 ((restG n g).length : Int)] 2) := ⟨_, rfl⟩
 have HB6a := Aside0.mk (show Below (subW w (n : Int) A cap gs A' cap' g).heap.size (subW w (n : Int) A cap gs A' cap' g) W6 by rw [hW6]; exact below_alloc HB5.out _)
 have HX6 := Aside0.mk (HBX.out W6 HB6a.out)
 have HR6 : Aside0 (RowBox W6 w3.heap.size A3 c3 (restG n g)) := ⟨by rw [hW6]; exact HR5.out.later (below_alloc (Below.refl _ _) _)⟩
 have HN6 : Aside0 (W6.cell? ⟨W5.heap.size, 0, none⟩ = some (.int .i64 ((restG n g).length : Int))) := ⟨by rw [hW6]; exact (blk_cell (blk_new W5 _) 0).trans rfl⟩
 have HW6 := Aside0.mk hW6
 clear hW6
 have cr0 := HR5.out.1
 have cn0 := HN6.out
 have HF5 := HF W6 w3.heap.size W5.heap.size A3 c3 HR6.out HN6.out HX6.out.1 HX6.out.2.1
 clear HF
 go_wp2_with (first | (rw [← HW5.out]) | (rw [← HW6.out]) | fail)
 (refine HF5.mono ?_; clear HF5; rintro e w6 ⟨v6, rfl, hs6, hb6⟩; obtain ⟨A6, c6, rfl⟩ := S_slice hs6; have HS6 := Aside0.mk hs6; have HB6 := Aside0.mk (below_then HB6a.out HB6a.out.size hb6); clear hs6 hb6 cr0 cn0)
 have HZ := Aside0.mk (HBX.out _ HB6.out).2.2
 have z0 : w6.cell? ⟨w.heap.size + 1 + 1, 0, none⟩ = some (.int .i64 0) := (blk_cell HZ.out 0).trans rfl
 have z1 : w6.cell? ⟨w.heap.size + 1 + 1, 1, none⟩ = some (.slice none 0 0) := (blk_cell HZ.out 1).trans rfl
 have f0 := blk_frozen HZ.out 0
 have f1 := blk_frozen HZ.out 1
 go_wp2_with (fail)
 have p0 := fun a b => put0 (a := a) (b := b) HZ.out
 have p1 := fun a b => put1 (a := a) (b := b) HZ.out
 refine bodyPost_ret (v := .tuple #[.agg #[.int .i64 ((restG n g).length + 1 : Int), .slice A6 F.length c6], .int .i64 0]) (by simp [results, Tryz.results9, go_sem, p0, p1]) rfl ⟨_, rfl, S_put HZ.out (S_lower HS6.out (below_then HWB.out HWB.out.size HB6a.out).size), ?_⟩
 exact below_set (below_set (below_then HWB.out HWB.out.size HB6.out) (by omega)) (by omega)

theorem modB_pos {n : Nat} {gs : List (List Int)} {g : List Int} (h : isModB n gs g = true) : 0 < g.length := by
 unfold isModB at h
 rw [Bool.and_eq_true] at h
 exact of_decide_eq_true h.1
/-- What OuterFamily answers. -/
def OutRes (n : Int) (gs : List (List Int)) (g : List Int) : Int × List (List Int) × Int :=
 if modCode n gs g = 0 then (((restG n.toNat g).length + 1 : Int), famN ((restG n.toNat g).length + 1) (outP n.toNat gs g), 0) else (0, [], modCode n gs g)
theorem OuterFamily_calls (n : Int) (A : Option Addr) (cap : Nat) (gs : List (List Int)) (A' : Option Addr) (cap' : Nat) (g : List Int) (w : World) (hC : dR.C w A gs.length gs) (hcap : gs.length ≤ cap) (hC' : Kd.C (Kd.int .i64) w A' g.length g) (hcap' : g.length ≤ cap') :
  Calls Tryz.prog 9 #[.agg #[.int .i64 n, .slice A gs.length cap], .slice A' g.length cap'] w (FamRes w (OutRes n gs g).1 (OutRes n gs g).2.1 (OutRes n gs g).2.2) := by
 unfold OutRes
 rcases modCode_cases n gs g with ⟨h0, hv, hg, hm⟩ | hc
 ·
  rw [if_pos h0]
  have hr := hv.1
  obtain ⟨m, rfl⟩ : ∃ m : Nat, n = (m : Int) := ⟨n.toNat, by omega⟩
  rw [Int.toNat_natCast] at *
  exact OuterFamily_yes m A cap gs A' cap' g w hC hcap hC' hcap' h0 hv hg (modB_pos hm)
 ·
  rw [if_neg (by omega)]
  exact OuterFamily_bad n A cap gs A' cap' g w hC hcap hC' hcap' _ rfl hc


end Go.Proofs.YtgemfighmnnmeaaGreat.OutF
