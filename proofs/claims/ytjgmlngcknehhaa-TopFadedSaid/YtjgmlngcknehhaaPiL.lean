/- A function of no parameters that answers with a Boolean may be called from anywhere: it turns nothing that was there before. -/
import Derived.Test.YtjgmlngcknehhaaPiI
set_option linter.all false
set_option linter.unusedVariables false
set_option linter.unusedSimpArgs false
set_option linter.unusedSectionVars false
namespace Go.Pi
open Go

theorem closed_sim {P : Program} {B : Nat} {PP : FuncId → Option PFunc} (hPP : PPok P PP) (hdraw : DrawsOk P B) {m : Nat} {f : FuncId} {b : Bool} (hk : run PP (fun _ => none) m (.func f) [] [] = some ⟨.ok (.bool b), [], 0⟩)
    {H : Heap} {φ : Map} {w : World} {args' : Array Value} (hE : Emb P B φ H w) (hB : B ≤ w.heap.size) (hv : VRs φ [] args'.toList) : FnSim P B φ H w args' ⟨.ok (.bool b), H, H.length⟩ (.func f) := by
  have hp : PrimsOk P B (fun _ => none) := ⟨fun f g h => (by cases h), fun f g h => (by cases h)⟩
  have hE0 : Emb P B (fun _ => none) [] w := by
    refine ⟨fun i s h => (by cases h), fun i s blk h => (by cases h), fun i s blk h => (by cases h), fun i s blk h => (by cases h), fun i blk h => (by simp at h), fun i k si sk bi bk _ h => (by cases h), fun i b f h => (by simp at h)⟩
  have hv0 : VRs (fun _ => none) [] args'.toList := ⟨hv.1, fun j x y hx => by simp at hx⟩
  obtain ⟨h1, h2⟩ := run_sim hPP hp hdraw m (.func f) [] [] _ hk (fun _ => none) w args' hE0 hB hv0
  refine ⟨h1, fun n => (h2 n).mono ?_⟩
  rintro e w' ⟨φ', g1, g2, g3⟩
  have hsz := g2.size
  have hfr : ∀ j, j < w.heap.size → w'.heap[j]? = w.heap[j]? := fun j hj => g2.frame j hj (fun i s h => by cases h)
  refine ⟨φ, hE.world hsz (fun i s hi => hfr _ (hE.inb i s hi).2), ⟨Nat.le_refl _, fun _ _ => rfl, fun i s hi hs => absurd (hE.inb i s hs).1 (by omega), hsz, fun j hj _ => hfr j hj, g2.out⟩, ?_⟩
  cases e with
  | returned v' =>
    have g3 : VR φ' (.bool b) v' := g3
    cases g3
    exact VR.bool (φ := φ) b
  | _ => exact g3.elim

theorem closed_prims {P : Program} {B : Nat} {PP : FuncId → Option PFunc} (hPP : PPok P PP) (hdraw : DrawsOk P B) {m : Nat} {f : FuncId} {b : Bool} (hk : run PP (fun _ => none) m (.func f) [] [] = some ⟨.ok (.bool b), [], 0⟩) :
    PrimsOk P B (fun g => if g = f then some fun args H => if args.isEmpty = true then some ⟨.ok (.bool b), H, H.length⟩ else none else none) := by
  refine ⟨fun f' g hg args H out ho φ w args' hE hB hv => ?_, fun f' g hg args H out ho hF => ?_⟩
  · split at hg
    · cases hg
      rename_i hf
      subst hf
      dsimp only at ho
      split at ho
      · cases ho
        rename_i he
        obtain rfl : args = [] := by simpa using he
        exact closed_sim hPP hdraw hk hE hB hv
      · cases ho
    · cases hg
  · split at hg
    · cases hg
      dsimp only at ho
      split at ho
      · cases ho
        exact ⟨hF, Same.refl _ _⟩
      · cases ho
    · cases hg

theorem VR.agg_l {φ : Map} {xs ys : List Value} (h : VRs φ xs ys) : VR φ (.agg xs.toArray) (.agg ys.toArray) :=
  .agg _ _ (by simpa using h.1) fun j x y hx hy => h.2 j x y (by simpa using hx) (by simpa using hy)

theorem Emb.empty (P : Program) (w : World) : Emb P 0 (fun _ => none) [] w :=
  ⟨fun i s h => (by cases h), fun i s blk h => (by cases h), fun i s blk h => (by cases h), fun i s blk h => (by cases h), fun i blk h => (by simp at h), fun i k si sk bi bk _ h => (by cases h), fun i b f h => (by simp at h)⟩

/-- A world that has only got more. -/
structure More (w w' : World) : Prop where
  os : w'.os = w.os
  output : w'.output = w.output
  size : w.heap.size ≤ w'.heap.size
  old : ∀ j, j < w.heap.size → w'.heap[j]? = w.heap[j]?

theorem More.kept {w w' : World} (h : More w w') (may : MemPlace → Prop) : w.keptBut w' may := by
  refine ⟨h.os, h.output, fun i hi => ?_⟩
  rw [h.old i hi]
  split
  · exact ⟨by simp_all, by simp_all, by simp_all, fun j _ => by simp_all⟩
  · right; simp_all
  · simp_all

/-- A call from the empty heap, of plain arguments, that answers with a Boolean. -/
theorem call_bool {P : Program} {PP : FuncId → Option PFunc} {prims : Prims} {m : Nat} {f : FuncId} {b : Bool} {args : List Value} {args' : Array Value} {w : World} (hPP : PPok P PP) (hp : PrimsOk P 0 prims) (hd : DrawsOk P 0)
    (hr : run PP prims m (.func f) args [] = some ⟨.ok (.bool b), [], 0⟩) (hv : VRs (fun _ => none) args args'.toList) : Calls P f args' w fun e w' => e = .returned (.bool b) ∧ More w w' := by
  obtain ⟨_, h⟩ := run_sim hPP hp hd m (.func f) args [] _ hr (fun _ => none) w args' (.empty P w) (Nat.zero_le _) hv
  refine (callsIn_wide.1 (h 0)).mono fun e w' hl => ?_
  obtain ⟨φ', h1, h2, h3⟩ := hl
  refine ⟨?_, h2.out.1, h2.out.2, h2.size, fun j hj => h2.frame j hj (fun i s h => by cases h)⟩
  cases e with
  | returned v' =>
    have h3 : VR φ' (.bool b) v' := h3
    cases h3
    rfl
  | _ => exact h3.elim
end Go.Pi
