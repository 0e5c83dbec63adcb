/- What the walks of chapter 5's statements share: rows that are read, numbers cut to a width, two rows of the call's own side by side. -/
import Derived.Test.YtefiaaglkenfeaaCo
namespace Go.Proofs.Ytefiaaglkenfeaa.T
open Go.RowKit Go.Proofs.Ytefiaaglkenfeaa.PBitsTell Go.Proofs.YtefiaaglkenfeaaW.PrintWords Go.Proofs.YtefiaaglkenfeaaW.PrintLast
open Go.Proofs.Ytefiaaglkenfeaa.N Go.Proofs.Ytefiaaglkenfeaa.K
set_option linter.unusedVariables false
set_option linter.unusedSimpArgs false
def RowIs (k : IntKind) (w : World) (a : Option Addr) (len cap : Nat) (zs : List Int) : Prop :=
  (a = none ∧ len = 0 ∧ cap = 0 ∧ zs = []) ∨
  ∃ x, a = some x ∧ len ≤ cap ∧ cap ≤ maxLen ∧ zs.length = cap ∧ (∀ i, i < zs.length → w.cell? (x.add i) = some (.int k (zs.getD i 0))) ∧ ∀ n ∈ zs, (Lit.int k n).wf = true
/-- numbers cut to a width. -/
def cutTo (d : Nat) (zs : List Int) : List Int := zs.map fun n => lowS n (2 ^ d)
theorem cutTo_snoc (d : Nat) (zs : List Int) (i : Nat) (h : i < zs.length) : cutTo d (zs.take (i + 1)) = cutTo d (zs.take i) ++ [lowS (rd zs i) (2 ^ d)] := by
  unfold cutTo
  rw [List.take_succ_eq_append_getElem h, List.map_append]
  simp [rd, List.getD_eq_getElem?_getD, h]
theorem cutTo_ok (d : Nat) (zs : List Int) : okAll d (cutTo d zs) = true := by
  rw [okAll_iff]
  intro x hx
  obtain ⟨y, _, rfl⟩ := List.mem_map.1 hx
  exact lowS_bd y _ (pow_pos' (by omega) d)
theorem cutTo_len (d : Nat) (zs : List Int) : (cutTo d zs).length = zs.length := by simp [cutTo]
theorem llow_same (x n r : Int) (w : World) (h1 : 1 ≤ n) (h2 : n ≤ 9223372036854775807) (hr : lowS x n = r) :
    Calls Try.prog 25 #[.int .i64 x, .int .i64 n] w fun e w' => e = .returned (.int .i64 r) ∧ w' = w := by
  have HR := Lib.hid hr
  have HL := Lib.hid (low_fact x n h1 h2).1
  have h0 := (low_fact x n h1 h2).2
  clear hr
  go_enter Try.func25, Try.ntmps25
  go_wp2
  go_ret
  exact ⟨ret_int (HL.out.trans HR.out), rfl⟩
theorem heldB {w W : World} {a : Addr} {v : Value} (hb : Below w.heap.size w W) (hc : w.cell? a = some v) : W.cell? a = some v := (hb.cell (World.block_lt_of_cell? w _ hc)).trans hc
theorem rd_zeros (X : List Int) (e i : Nat) (h : X.length ≤ i) : rd (X ++ List.replicate e 0) i = 0 := by
  unfold rd
  rw [Int.toNat_natCast, List.getD_eq_getElem?_getD, List.getElem?_append_right h, List.getElem?_replicate]
  split <;> rfl
theorem info5 : (Try.prog.info? 5).map (fun i => (i.zero, i.size, i.bytes)) = some (some (.int .u8 0), 1, 1) := by kernel_rfl
theorem info3 : (Try.prog.info? 3).map (fun i => (i.zero, i.size, i.bytes)) = some (some (.int .i64 0), 1, 8) := by kernel_rfl
theorem C_of_row64 {w : World} {A : Option Addr} {xs : List Int} (h : ReadsInt w .i64 A xs.length xs) : Kd.C (Kd.int .i64) w A xs.length xs := Kd.C_of_reads (d := (0 : Int)) (h1 := fun _ => rfl) h
/-- two rows of the call's own, apart. -/
def Two (W : World) (base : Nat) (v : Value) (xs : List Int) (u : Value) (ys : List Int) : Prop := RI W base v xs ∧ RI W base u ys ∧ ∀ k, v.ownBlock = some k → u.ownBlock ≠ some k
theorem Two.nil (W : World) (base : Nat) : Two W base (.slice none 0 0) [] (.slice none 0 0) [] := ⟨Kd.R_nil _ _ _ _ _, Kd.R_nil _ _ _ _ _, fun k hk => by simp [Value.ownBlock] at hk⟩
theorem Two.swap {W : World} {base : Nat} {v u : Value} {xs ys : List Int} (h : Two W base v xs u ys) : Two W base u ys v xs := ⟨h.2.1, h.1, fun k hk e => h.2.2 k e hk⟩
theorem Two.drewN {W : World} {base : Nat} {v u : Value} {xs ys : List Int} (h : Two W base v xs u ys) (n : Nat) : Two (W.drewN n) base v xs u ys := ⟨Kd.R_drewN h.1 n, Kd.R_drewN h.2.1 n, h.2.2⟩
theorem Two.left {W w1 : World} {base : Nat} {v v1 u : Value} {xs xs1 ys : List Int} (h : Two W base v xs u ys) (ho : RI w1 base v1 xs1) (hg : W.grownBy w1 v.ownBlock) (hat : v1.ownBlock = v.ownBlock ∨ ∃ b, v1.ownBlock = some b ∧ W.heap.size ≤ b) : Two w1 base v1 xs1 u ys := by
  refine ⟨ho, Kd.R_grown2 h.2.1 rfl hg (fun k hk e => h.2.2 k hk e.symm), fun k hk e => ?_⟩
  rcases hat with hat | ⟨b, hb, hle⟩
  · exact h.2.2 k (by rw [← hat]; exact hk) e
  · have h3 := (Kd.R_bound h.2.1).1 k e
    rw [hb] at hk
    have : b = k := Option.some.inj hk
    omega
end Go.Proofs.Ytefiaaglkenfeaa.T
