/- Contracts: the example table, head, small. -/
import Derived.Test.YtoeghbhlklnajaaC15
namespace Go.Proofs.Ytoeghbhlklnajaa
open Go.Eng
set_option maxRecDepth 10000
set_option linter.unusedSimpArgs false
set_option linter.unusedVariables false
/-- The example table; b is the last unit's base. -/
def exT (b : Int) : Nat → U
  | 0 => ⟨{ data := #[116] }, 1, 0, (1, 1)⟩
  | 1 => ⟨{ data := #[107, 103] }, 1, 0, (1, 1000)⟩
  | 2 => ⟨{ data := #[69, 85, 82] }, 2, 2, (1, 1)⟩
  | _ => ⟨{ data := #[99, 116] }, 2, b, (1, 100)⟩
theorem exT_w {b : Int} (hb : inK .i64 b) (n : Nat) : ∀ j, j < n → uW (exT b j) := by
  intro j _
  match j with
  | 0 => simp [exT, uW, qW, inK]
  | 1 => simp [exT, uW, qW, inK]
  | 2 => simp [exT, uW, qW, inK]
  | j + 3 =>
    simp only [inK] at hb
    simp [exT, uW, qW, inK]
    omega
theorem table_ok : DoesM Try.prog 26 [] [] (.vec 0 0) [.vec 42 5 0 4 (fun i => uc (exT 2 i))] := by
  refine DoesM.mk (fun j => Nat.beq j 11) 100 TT_ok Try.func26 rfl (by kernel_rfl) Try.ntmps26 rfl rfl rfl fun E hT hE hN => ?_
  have hm : E.P.follows .mixedOrders = true := by rw [hE]; kernel_rfl
  (repeat (first | refine XK.seq ?_ | refine XK.skip ?_ | refine XK.block ?_ | refine XK.pop ?_ | ((refine XK.rgn hT rfl rfl rfl ?_ ?_); focus (first | exact trivial | (refine ⟨by omega, by (simp <;> omega), fun i hi => ?_⟩; obtain rfl : i = 0 := (by omega); rfl) | (simp [AllP, impG]; done) | (simp only [AllP, List.append, List.nil_append, List.cons_append, inK, tdiv_nn, tmod_nn]; omega) | (simp [AllP, impG, inK, tdiv_nn, tmod_nn]; omega) | (simp only [AllP, impG, inK]; grind))) | ((refine XK.rgnD hT hm rfl rfl rfl (by kernel_rfl) ?_ ?_); focus (first | exact trivial | (refine ⟨by omega, by (simp <;> omega), fun i hi => ?_⟩; obtain rfl : i = 0 := (by omega); rfl) | (simp [AllP, impG]; done) | (simp only [AllP, List.append, List.nil_append, List.cons_append, inK, tdiv_nn, tmod_nn]; omega) | (simp [AllP, impG, inK, tdiv_nn, tmod_nn]; omega) | (simp only [AllP, impG, inK]; grind))) | refine XK.exit rfl ?_))
  (first | refine XK.outR [135] hN rfl rfl rfl ?_ rfl rfl ?_ | refine XK.outRN [135] hN rfl rfl rfl ?_ rfl rfl ?_)
  · refine ⟨⟨rfl, rfl, rfl⟩, rfl, fun i hi => ?_⟩
    match i with
    | 0 => rfl
    | 1 => rfl
    | 2 => rfl
    | 3 => rfl
  · exact AvIs.refl _
theorem ofA_ok (num den unit : Int) : Does Try.prog 27 [.c (.int .i64 num), .c (.int .i64 den), .c (.int .i64 unit)] (av ⟨unit, (num, den)⟩) := by
  refine Does.mk (fun _ => false) TT_ok Try.func27 rfl (by kernel_rfl) Try.ntmps27 rfl rfl fun E hT hE hN => ?_
  have hm : E.P.follows .mixedOrders = true := by rw [hE]; kernel_rfl
  (repeat (first | refine XK.seq ?_ | refine XK.skip ?_ | refine XK.block ?_ | refine XK.pop ?_ | ((refine XK.rgn hT rfl rfl rfl ?_ ?_); focus (first | exact trivial | (refine ⟨by omega, by (simp <;> omega), fun i hi => ?_⟩; obtain rfl : i = 0 := (by omega); rfl) | (simp [AllP, impG]; done) | (simp only [AllP, List.append, List.nil_append, List.cons_append, inK, tdiv_nn, tmod_nn]; omega) | (simp [AllP, impG, inK, tdiv_nn, tmod_nn]; omega) | (simp only [AllP, impG, inK]; grind))) | ((refine XK.rgnD hT hm rfl rfl rfl (by kernel_rfl) ?_ ?_); focus (first | exact trivial | (refine ⟨by omega, by (simp <;> omega), fun i hi => ?_⟩; obtain rfl : i = 0 := (by omega); rfl) | (simp [AllP, impG]; done) | (simp only [AllP, List.append, List.nil_append, List.cons_append, inK, tdiv_nn, tmod_nn]; omega) | (simp [AllP, impG, inK, tdiv_nn, tmod_nn]; omega) | (simp only [AllP, impG, inK]; grind))) | refine XK.exit rfl ?_))
  (first | refine XK.out rfl rfl rfl ?_ | refine XK.outN rfl rfl rfl ?_)
  rfl
theorem A.ext' {a b : A} (h1 : a.unit = b.unit) (h2 : a.val = b.val) : a = b := by cases a; cases b; simp_all
def amt2 : Nat → A
  | 0 => ⟨2, (1, 1)⟩
  | _ => ⟨3, (5, 1)⟩
def amt3 : Nat → A
  | 0 => ⟨0, (1, 1)⟩
  | 1 => ⟨1, (5, 1)⟩
  | _ => ⟨3, (7, 1)⟩
theorem amt2_w (n : Nat) : ∀ j, j < n → aW (amt2 j) := by
  intro j _
  match j with
  | 0 => simp [amt2, aW, qW, inK]
  | j + 1 => simp [amt2, aW, qW, inK]
theorem amt3_w (n : Nat) : ∀ j, j < n → aW (amt3 j) := by
  intro j _
  match j with
  | 0 => simp [amt3, aW, qW, inK]
  | 1 => simp [amt3, aW, qW, inK]
  | j + 2 => simp [amt3, aW, qW, inK]
theorem ex_valid : validR (exT 2) 4 = (-1, true) := by decide +kernel
theorem ex_invalid : validR (exT 0) 4 = (3, false) := by decide +kernel
theorem ex_conv1 : convR (exT 2) 4 ⟨1, (500, 1)⟩ 0 = (⟨0, (1, 2)⟩, 0) := Prod.ext (A.ext' (by decide +kernel) (by decide +kernel)) (by decide +kernel)
theorem ex_conv2 : convR (exT 2) 4 ⟨0, (1, 1)⟩ 2 = (zA, 11) := Prod.ext (A.ext' (by decide +kernel) (by decide +kernel)) (by decide +kernel)
theorem ex_conv3 : convR (exT 2) 4 ⟨4, (1, 1)⟩ 2 = (zA, 1) := Prod.ext (A.ext' (by decide +kernel) (by decide +kernel)) (by decide +kernel)
theorem ex_sum : sumR (exT 2) 4 amt2 2 3 = (⟨3, (105, 1)⟩, 0) := Prod.ext (A.ext' (by decide +kernel) (by decide +kernel)) (by decide +kernel)
theorem ex_acc : acceptsR (exT 2) 4 amt3 3 = true := by decide +kernel
def exB : Nat → Q
  | 0 => (201, 200)
  | 2 => (7, 100)
  | _ => (0, 1)
theorem ex_sums : (sumsTo (exT 2) amt3 (fun a => (exT 2 a.unit.toNat).base) 3).2 = 0 ∧ ∀ i, i < 4 → (sumsTo (exT 2) amt3 (fun a => (exT 2 a.unit.toNat).base) 3).1 i = exB i := by decide +kernel
theorem ex_cov1 : coversR exB 4 exB 4 = true := by decide +kernel
theorem ex_cov2 : coversR exB 4 exB 3 = false := by decide +kernel
end Go.Proofs.Ytoeghbhlklnajaa
