/- awake: its walk; Norm of one and of two polys. -/
import Derived.Test.YtebicdjnhogniaaNm
import Derived.Test.YtebicdjnhogniaaTh
namespace Go.Proofs.Ytebicdjnhogniaa.T
open Go.RowKit Go.Proofs.Ytebicdjnhogniaa.PWaveRing Go.Proofs.YtebicdjnhogniaaW.PrintWords Go.Proofs.YtebicdjnhogniaaW.PrintLast
set_option linter.unusedVariables false
set_option linter.unusedSimpArgs false
def nrm (f : F) : Int := mxs 0 f 256
def nrm2 (f g : F) : Int := mxs (nrm f) g 256
theorem nrm_bd {f : F} (h : PF f) : 0 ≤ nrm f ∧ nrm f ≤ 8380417 := mxs_bd (by omega) h 256 (Nat.le_refl _)
theorem below_alloc1 (W : World) (o : Obj) : Below W.heap.size W (W.alloc o) := (Below.refl _ _).alloc (Nat.le_refl _) _
theorem norm1_any (W : World) (A : Option Addr) (c : Nat) (f : F) (r : Int) (hR : RD W A f) (hc : 256 ≤ c) (hf : PF f) (hr : nrm f = r) :
    Calls Try.prog 17 #[.slice (some ⟨W.heap.size, 0, none⟩) 1 1] (W.alloc (.cells #[.slice A 256 c] 22)) fun e w' => e = .returned (.int .i64 r) ∧ Below W.heap.size W w' := by
  have hb := below_alloc1 W (.cells #[.slice A 256 c] 22)
  refine (norm_any ⟨W.heap.size, 0, none⟩ 1 1 (fun _ => A) (fun _ => c) (fun _ => f) r _ (by omega) (fun i hi => ?_) (fun i hi => hR.below hb) (fun _ _ => hc) (fun _ _ => hf) hr).mono ?_
  · rw [add_at, cell_of_row _ _ _ _ _ _ (heap_alloc_new W _)]
    obtain rfl : i = 0 := by omega
    rfl
  · rintro e w' ⟨rfl, hB⟩
    exact ⟨rfl, below_step hb hB⟩
theorem norm2_any (W : World) (A B : Option Addr) (c d : Nat) (f g : F) (r : Int) (hR : RD W A f) (hRB : RD W B g) (hc : 256 ≤ c) (hd : 256 ≤ d) (hf : PF f) (hg : PF g) (hr : nrm2 f g = r) :
    Calls Try.prog 17 #[.slice (some ⟨W.heap.size, 0, none⟩) 2 2] (W.alloc (.cells #[.slice A 256 c, .slice B 256 d] 22)) fun e w' => e = .returned (.int .i64 r) ∧ Below W.heap.size W w' := by
  have hb := below_alloc1 W (.cells #[.slice A 256 c, .slice B 256 d] 22)
  refine (norm_any ⟨W.heap.size, 0, none⟩ 2 2 (fun i => if i = 0 then A else B) (fun i => if i = 0 then c else d) (fun i => if i = 0 then f else g) r _ (by omega) (fun i hi => ?_) (fun i hi => ?_) (fun i hi => ?_) (fun i hi => ?_) hr).mono ?_
  · rw [add_at, cell_of_row _ _ _ _ _ _ (heap_alloc_new W _)]
    match i, hi with
    | 0, _ => rfl
    | 1, _ => rfl
  · split
    · exact hR.below hb
    · exact hRB.below hb
  · split
    · exact hc
    · exact hd
  · split
    · exact hf
    · exact hg
  · rintro e w' ⟨rfl, hB⟩
    exact ⟨rfl, below_step hb hB⟩
theorem normbad_any (W : World) :
    Calls Try.prog 17 #[.slice (some ⟨W.heap.size, 0, none⟩) 1 1] (W.alloc (.cells #[.slice none 0 0] 22)) fun e w' => e = .returned (.int .i64 (-1)) ∧ Below W.heap.size W w' := by
  have hb := below_alloc1 W (.cells #[.slice none 0 0] 22)
  refine (norm_bad ⟨W.heap.size, 0, none⟩ 1 _ ?_).mono ?_
  · rw [cell_of_row _ _ _ _ _ _ (heap_alloc_new W _)]
    rfl
  · rintro e w' ⟨rfl, rfl⟩
    exact ⟨rfl, hb⟩
theorem unit_PF (i : Nat) : PF (unitS i) := fun j _ => by unfold unitS; split <;> omega
theorem o_first : overS (unitS 0) 0 = 1 ∧ overS (unitS 0) 255 = 1 := by decide +kernel
theorem u3_norm : nrm (unitS 3) = 1 := by decide +kernel
set_option maxHeartbeats 2000000 in
set_option maxRecDepth 20000 in
theorem awake_any (w : World) : Calls Try.prog 11 #[] w fun e w' => e = .returned (.bool true) ∧ Below w.heap.size w w' := by
  obtain ⟨o, ho⟩ : ∃ o, overS (unitS 0) = o := ⟨_, rfl⟩
  have HO := Lib.hid ho
  have o0 := o_first.1
  have o1 := o_first.2
  rw [ho] at o0 o1
  have PO : Hid (PF o) := Lib.hid (by rw [← ho]; exact overS_PF _)
  have BO : Hid (∀ i, i < 256 → backS o i = unitS 0 i) := Lib.hid (by rw [← ho]; exact back_over _ (unit_PF 0))
  have O0 := Lib.hid o0
  have O1 := Lib.hid o1
  clear ho o0 o1
  go_enter Try.func11, Try.ntmps11
  go_wp2_with fail
  with_reducible refine (unit_any 0 0 _ (by omega) rfl).mono ?_
  rintro e w1 ⟨g1, c1, rfl, hc1, hg1, hI1, hB1⟩
  have I1 := Lib.hid hI1
  have B1 := Lib.hid hB1
  clear hI1 hB1 hg1
  go_wp2_with fail
  with_reducible refine (over_any _ _ _ o _ I1.out.rd hc1 (unit_PF 0) HO.out).mono ?_
  rintro e w2 ⟨g2, c2, rfl, hc2, hg2, hI2, hB2⟩
  have I2 := Lib.hid hI2
  have B2 := Lib.hid (below_step B1.out hB2)
  have h0 := hI2.cell 0 (by omega)
  rw [O0.out] at h0
  have h255 := hI2.cell 255 (by omega)
  rw [O1.out] at h255
  have C2 := Lib.hid hc2
  clear hI2 hB2 hg2 hc1 hc2
  go_wp2_with fail
  with_reducible refine (back_any _ _ _ _ _ I2.out.rd C2.out PO.out rfl).mono ?_
  rintro e w3 ⟨g3, c3, rfl, hc3, hg3, hI3, hB3⟩
  have I2 := Lib.hid (I2.out.below hB3)
  have I3 := Lib.hid hI3
  have B3 := Lib.hid (below_step B2.out hB3)
  have C3 := Lib.hid hc3
  clear hI3 hB3 hg3 hc3 h0 h255
  go_wp2_with fail
  with_reducible refine (unit_any 0 0 _ (by omega) rfl).mono ?_
  rintro e w4 ⟨g4, c4, rfl, hc4, hg4, hI4, hB4⟩
  have I2 := Lib.hid (I2.out.below hB4)
  have I3 := Lib.hid (I3.out.below hB4)
  have I4 := Lib.hid hI4
  have B4 := Lib.hid (below_step B3.out hB4)
  have C4 := Lib.hid hc4
  clear hI4 hB4 hg4 hc4
  go_wp2_with fail
  with_reducible refine (same_any _ _ _ _ _ _ _ I3.out.rd I4.out.rd C3.out C4.out BO.out).mono ?_
  rintro e w5 ⟨rfl, hD5⟩
  have I2 := Lib.hid (I2.out.drawn hD5)
  have B5 := Lib.hid (below_drawn B4.out hD5)
  clear hD5
  go_wp2_with fail
  with_reducible refine (unit_any 3 3 _ (by omega) rfl).mono ?_
  rintro e w6 ⟨g6, c6, rfl, hc6, hg6, hI6, hB6⟩
  have I2 := Lib.hid (I2.out.below hB6)
  have I6 := Lib.hid hI6
  have B6 := Lib.hid (below_step B5.out hB6)
  have C6 := Lib.hid hc6
  clear hI6 hB6 hg6 hc6
  go_wp2_with fail
  with_reducible refine (norm1_any _ _ _ _ 1 I6.out.rd C6.out (unit_PF 3) u3_norm).mono ?_
  rintro e w7 ⟨rfl, hB7⟩
  have I2 := Lib.hid (I2.out.below hB7)
  have B7 := Lib.hid (below_step B6.out hB7)
  clear hB7
  go_wp2_with fail
  with_reducible refine (normbad_any _).mono ?_
  rintro e w8 ⟨rfl, hB8⟩
  have I2 := Lib.hid (I2.out.below hB8)
  have B8 := Lib.hid (below_step B7.out hB8)
  clear hB8
  go_wp2_with fail
  with_reducible refine (norm_none _).mono ?_
  rintro e w9 ⟨rfl, hw⟩
  rw [hw]
  clear hw
  go_wp2_with fail
  with_reducible refine (may_any _ _ _ _ I2.out.rd C2.out PO.out).mono ?_
  rintro e w10 ⟨rfl, hw⟩
  rw [hw]
  clear hw
  go_wp2
  go_ret
  exact ⟨rfl, B8.out⟩
def RowIs (k : IntKind) (w : World) (a : Option Addr) (len cap : Nat) (zs : List Int) : Prop :=
  (a = none ∧ len = 0 ∧ cap = 0 ∧ zs = []) ∨
  ∃ x, a = some x ∧ len ≤ cap ∧ cap ≤ maxLen ∧ zs.length = cap ∧ (∀ i, i < zs.length → w.cell? (x.add i) = some (.int k (zs.getD i 0))) ∧ ∀ n ∈ zs, (Lit.int k n).wf = true
end Go.Proofs.Ytebicdjnhogniaa.T
