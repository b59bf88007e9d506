/- Series over the words of two letters, cut off at length five: products, polynomials, substitution, Lie elements, Dynkin's test, exponentials and logarithms. Plain law. -/
namespace Go.Proofs.Ytodlfmagkjblgaa

abbrev Fp := Fin 1000000271
def Ser := List Bool → Fp
namespace Ser
def mulS (f g : Ser) : Ser
  | [] => f [] * g []
  | x :: w => mulS (fun v => f (x :: v)) g w + f [] * g (x :: w)
instance : Add Ser := ⟨fun f g w => f w + g w⟩
instance : Sub Ser := ⟨fun f g w => f w - g w⟩
instance : Mul Ser := ⟨mulS⟩
def zero : Ser := fun _ => 0
def one : Ser := fun w => match w with | [] => 1 | _ :: _ => 0
def sm (c : Fp) (f : Ser) : Ser := fun w => c * f w
def ltr (x : Bool) : Ser := fun w => match w with | [y] => if x = y then 1 else 0 | _ => 0
def der (x : Bool) (f : Ser) : Ser := fun v => f (x :: v)

theorem add_at (f g : Ser) (w : List Bool) : (f + g) w = f w + g w := rfl
theorem sub_at (f g : Ser) (w : List Bool) : (f - g) w = f w - g w := rfl
theorem sm_at (c : Fp) (f : Ser) (w : List Bool) : sm c f w = c * f w := rfl
theorem zero_at (w : List Bool) : zero w = 0 := rfl
theorem one_nil : one [] = 1 := rfl
theorem one_cons (x : Bool) (w : List Bool) : one (x :: w) = 0 := rfl
theorem mul_nil (f g : Ser) : (f * g) [] = f [] * g [] := rfl
theorem mul_cons (f g : Ser) (x : Bool) (w : List Bool) : (f * g) (x :: w) = (der x f * g) w + f [] * g (x :: w) := rfl
theorem der_at (x : Bool) (f : Ser) (w : List Bool) : der x f w = f (x :: w) := rfl
theorem der_add (x : Bool) (f g : Ser) : der x (f + g) = der x f + der x g := rfl
theorem der_sub (x : Bool) (f g : Ser) : der x (f - g) = der x f - der x g := rfl
theorem der_sm (x : Bool) (c : Fp) (f : Ser) : der x (sm c f) = sm c (der x f) := rfl
theorem der_mul (x : Bool) (f g : Ser) : der x (f * g) = der x f * g + sm (f []) (der x g) := rfl
theorem der_one (x : Bool) : der x one = zero := rfl
theorem der_zero (x : Bool) : der x zero = zero := rfl

theorem ext {f g : Ser} (h : ∀ w, f w = g w) : f = g := funext h

theorem add_mul (f g h : Ser) : (f + g) * h = f * h + g * h := by
  apply ext
  intro w
  induction w generalizing f g with
  | nil => simp only [mul_nil, add_at]; grind
  | cons x w ih =>
    simp only [mul_cons, add_at, der_add] at ih ⊢
    rw [ih]; grind
theorem sub_mul (f g h : Ser) : (f - g) * h = f * h - g * h := by
  apply ext
  intro w
  induction w generalizing f g with
  | nil => simp only [mul_nil, sub_at]; grind
  | cons x w ih =>
    simp only [mul_cons, sub_at, der_sub] at ih ⊢
    rw [ih]; grind
theorem sm_mul (c : Fp) (f g : Ser) : sm c f * g = sm c (f * g) := by
  apply ext
  intro w
  induction w generalizing f with
  | nil => simp only [mul_nil, sm_at]; grind
  | cons x w ih =>
    simp only [mul_cons, sm_at, der_sm] at ih ⊢
    rw [ih]; grind
theorem mul_add (f g h : Ser) : f * (g + h) = f * g + f * h := by
  apply ext
  intro w
  induction w generalizing f with
  | nil => simp only [mul_nil, add_at]; grind
  | cons x w ih =>
    simp only [mul_cons, add_at] at ih ⊢
    rw [ih]; grind
theorem mul_sub (f g h : Ser) : f * (g - h) = f * g - f * h := by
  apply ext
  intro w
  induction w generalizing f with
  | nil => simp only [mul_nil, sub_at]; grind
  | cons x w ih =>
    simp only [mul_cons, sub_at] at ih ⊢
    rw [ih]; grind
theorem mul_sm (c : Fp) (f g : Ser) : f * sm c g = sm c (f * g) := by
  apply ext
  intro w
  induction w generalizing f with
  | nil => simp only [mul_nil, sm_at]; grind
  | cons x w ih =>
    simp only [mul_cons, sm_at] at ih ⊢
    rw [ih]; grind
theorem mul_zero (f : Ser) : f * zero = zero := by
  apply ext
  intro w
  induction w generalizing f with
  | nil => simp only [mul_nil, zero_at]; grind
  | cons x w ih =>
    simp only [mul_cons, zero_at] at ih ⊢
    rw [ih]; grind
theorem zero_mul (f : Ser) : zero * f = zero := by
  apply ext
  intro w
  induction w with
  | nil => simp only [mul_nil, zero_at]; grind
  | cons x w ih =>
    simp only [mul_cons, zero_at, der_zero] at ih ⊢
    rw [ih]; grind
theorem one_mul (f : Ser) : one * f = f := by
  apply ext
  intro w
  cases w with
  | nil => simp only [mul_nil, one_nil]; grind
  | cons x w => rw [mul_cons, der_one, zero_mul, zero_at, one_nil]; grind
theorem mul_one (f : Ser) : f * one = f := by
  apply ext
  intro w
  induction w generalizing f with
  | nil => simp only [mul_nil, one_nil]; grind
  | cons x w ih => rw [mul_cons, ih, der_at, one_cons]; grind
theorem mul_assoc (f g h : Ser) : f * g * h = f * (g * h) := by
  apply ext
  intro w
  induction w generalizing f g with
  | nil => simp only [mul_nil]; grind
  | cons x w ih =>
    rw [mul_cons, mul_cons, der_mul, add_mul, add_at, ih, sm_mul, sm_at, mul_cons, mul_nil]; grind
theorem add_comm (f g : Ser) : f + g = g + f := ext fun w => by simp only [add_at]; grind
theorem add_assoc (f g h : Ser) : f + g + h = f + (g + h) := ext fun w => by simp only [add_at]; grind
theorem add_zero (f : Ser) : f + zero = f := ext fun w => by simp only [add_at, zero_at]; grind
theorem zero_add (f : Ser) : zero + f = f := ext fun w => by simp only [add_at, zero_at]; grind
theorem sm_add (c : Fp) (f g : Ser) : sm c (f + g) = sm c f + sm c g := ext fun w => by simp only [add_at, sm_at]; grind
theorem sm_sm (c d : Fp) (f : Ser) : sm c (sm d f) = sm (c * d) f := ext fun w => by simp only [sm_at]; grind
theorem add_sm (c d : Fp) (f : Ser) : sm (c + d) f = sm c f + sm d f := ext fun w => by simp only [sm_at, add_at]; grind
theorem sm_zero (c : Fp) : sm c zero = zero := ext fun w => by simp only [sm_at, zero_at]; grind
theorem zero_sm (f : Ser) : sm 0 f = zero := ext fun w => by simp only [sm_at, zero_at]; grind
theorem one_sm (f : Ser) : sm 1 f = f := ext fun w => by simp only [sm_at]; grind

/-- Equal on the words of a length of at most n. -/
def Eq (n : Nat) (f g : Ser) : Prop := ∀ w, w.length ≤ n → f w = g w
section
variable {n : Nat} {f g h f' g' : Ser}
theorem Eq.refl (n : Nat) (f : Ser) : Eq n f f := fun _ _ => rfl
theorem Eq.of (e : f = g) : Eq n f g := fun _ _ => by rw [e]
theorem Eq.symm (h : Eq n f g) : Eq n g f := fun w hw => (h w hw).symm
theorem Eq.trans (h1 : Eq n f g) (h2 : Eq n g h) : Eq n f h := fun w hw => (h1 w hw).trans (h2 w hw)
theorem Eq.le {m : Nat} (h1 : Eq n f g) (hm : m ≤ n) : Eq m f g := fun w hw => h1 w (by omega)
theorem Eq.add (h1 : Eq n f f') (h2 : Eq n g g') : Eq n (f + g) (f' + g') := fun w hw => by rw [add_at, add_at, h1 w hw, h2 w hw]
theorem Eq.sub (h1 : Eq n f f') (h2 : Eq n g g') : Eq n (f - g) (f' - g') := fun w hw => by rw [sub_at, sub_at, h1 w hw, h2 w hw]
theorem Eq.sm (c : Fp) (h1 : Eq n f f') : Eq n (sm c f) (sm c f') := fun w hw => by rw [sm_at, sm_at, h1 w hw]
theorem Eq.der (x : Bool) (h1 : Eq (n + 1) f f') : Eq n (der x f) (der x f') := fun w hw => h1 _ (by simp; omega)
theorem Eq.mul (h1 : Eq n f f') (h2 : Eq n g g') : Eq n (f * g) (f' * g') := by
  intro w
  induction w generalizing f f' n with
  | nil => intro _; rw [mul_nil, mul_nil, h1 [] (by simp), h2 [] (by simp)]
  | cons x w ih =>
    intro hw
    simp only [List.length_cons] at hw
    rw [mul_cons, mul_cons, h1 [] (by simp), h2 (x :: w) (by simpa using hw)]
    rw [ih (n := n - 1) (f := Ser.der x f) (f' := Ser.der x f') (Eq.der x (h1.le (by omega))) (h2.le (by omega)) (by omega)]
/-- A factor without a number for the empty word moves all up by one. -/
theorem Eq.up (hf : f [] = 0) (h2 : Eq n g g') : Eq (n + 1) (f * g) (f * g') := by
  intro w hw
  cases w with
  | nil => rw [mul_nil, mul_nil, hf]; grind
  | cons x w =>
    simp only [List.length_cons] at hw
    rw [mul_cons, mul_cons, hf, (Eq.mul (Eq.refl _ _) h2) w (by omega)]; grind
end

/-! ### Polynomials in one series -/
def pol (x : Ser) : List Fp → Ser
  | [] => zero
  | c :: cs => sm c one + x * pol x cs
theorem pol_comm (x : Ser) (cs : List Fp) : pol x cs * x = x * pol x cs := by
  induction cs with
  | nil => rw [pol, zero_mul, mul_zero]
  | cons c cs ih => rw [pol, add_mul, mul_add, mul_assoc, ih, sm_mul, mul_sm, one_mul, mul_one]
def addC : List Fp → List Fp → List Fp
  | [], d => d
  | c, [] => c
  | a :: c, b :: d => (a + b) :: addC c d
theorem pol_add (x : Ser) (c d : List Fp) : pol x (addC c d) = pol x c + pol x d := by
  induction c generalizing d with
  | nil => rw [addC, pol, zero_add]
  | cons a c ih =>
    cases d with
    | nil => rw [addC, pol, pol, add_zero]; simp
    | cons b d =>
      rw [addC, pol, pol, pol, ih, mul_add, add_sm]
      apply ext
      intro w
      simp only [add_at]
      grind
theorem pol_map (x : Ser) (c : List Fp) (k : Fp) : pol x (c.map (fun a => k * a)) = sm k (pol x c) := by
  induction c with
  | nil => rw [List.map_nil, pol, sm_zero]
  | cons a c ih => rw [List.map_cons, pol, pol, ih, sm_add, mul_sm, sm_sm]
def mulC : List Fp → List Fp → List Fp
  | [], _ => []
  | a :: c, d => addC (d.map (fun b => a * b)) (0 :: mulC c d)
theorem pol_mul (x : Ser) (c d : List Fp) : pol x (mulC c d) = pol x c * pol x d := by
  induction c with
  | nil => rw [mulC, pol, zero_mul]
  | cons a c ih => rw [mulC, pol_add, pol_map, pol, pol, ih, add_mul, sm_mul, one_mul, mul_assoc, zero_sm, zero_add]
theorem pol_take {x : Ser} (hx : x [] = 0) (n : Nat) (c : List Fp) : Eq n (pol x c) (pol x (c.take (n + 1))) := by
  induction n generalizing c with
  | zero =>
    cases c with
    | nil => exact Eq.refl _ _
    | cons a c =>
      intro w hw
      obtain rfl : w = [] := by cases w with | nil => rfl | cons _ _ => simp at hw
      simp only [List.take_succ_cons, List.take_zero, pol, add_at, mul_nil, hx]
      grind
  | succ n ih =>
    cases c with
    | nil => exact Eq.refl _ _
    | cons a c =>
      rw [List.take_succ_cons, pol, pol]
      exact Eq.add (Eq.refl _ _) (Eq.up hx (ih c))
theorem pol_nil {x : Ser} (hx : x [] = 0) (c : Fp) (cs : List Fp) : pol x (c :: cs) [] = c := by
  rw [pol, add_at, sm_at, one_nil, mul_nil, hx]; grind
theorem pol_one (x : Ser) : pol x [0, 1] = x := by
  rw [pol, pol, pol, mul_zero, add_zero, one_sm, mul_one, zero_sm, zero_add]
theorem pol_congr {n : Nat} {x y : Ser} (h : Eq n x y) (c : List Fp) : Eq n (pol x c) (pol y c) := by
  induction c with
  | nil => exact Eq.refl _ _
  | cons a c ih => exact Eq.add (Eq.refl _ _) (Eq.mul h ih)
/-- A polynomial of a polynomial. -/
def comC : List Fp → List Fp → List Fp
  | [], _ => []
  | a :: c, d => addC [a] (mulC d (comC c d))
theorem pol_com (x : Ser) (c d : List Fp) : pol x (comC c d) = pol (pol x d) c := by
  induction c with
  | nil => rfl
  | cons a c ih => rw [comC, pol_add, pol_mul, ih, pol, pol, pol, mul_zero, add_zero]

/-! ### A series of two series in the place of the letters -/
def psi (X Y : Ser) : Nat → Ser → Ser
  | 0, f => sm (f []) one
  | k + 1, f => sm (f []) one + (X * psi X Y k (der false f) + Y * psi X Y k (der true f))
section
variable {X Y : Ser}
theorem psi_add (k : Nat) (f g : Ser) : psi X Y k (f + g) = psi X Y k f + psi X Y k g := by
  induction k generalizing f g with
  | zero => rw [psi, psi, psi, add_at, add_sm]
  | succ k ih =>
    rw [psi, psi, psi, der_add, der_add, ih, ih, mul_add, mul_add, add_at, add_sm]
    apply ext
    intro w
    simp only [add_at]
    grind
theorem psi_sm (k : Nat) (c : Fp) (f : Ser) : psi X Y k (sm c f) = sm c (psi X Y k f) := by
  induction k generalizing f with
  | zero => rw [psi, psi, sm_at, sm_sm]
  | succ k ih => rw [psi, psi, der_sm, der_sm, ih, ih, mul_sm, mul_sm, sm_at, sm_add, sm_add, sm_sm]
theorem sub_eq (f g : Ser) : f - g = f + sm (-1) g := ext fun w => by simp only [sub_at, add_at, sm_at]; grind
theorem psi_sub (k : Nat) (f g : Ser) : psi X Y k (f - g) = psi X Y k f - psi X Y k g := by rw [sub_eq, psi_add, psi_sm, ← sub_eq]
theorem psi_zero (k : Nat) : psi X Y k zero = zero := by
  induction k with
  | zero => rw [psi, zero_at, zero_sm]
  | succ k ih => rw [psi, der_zero, der_zero, ih, mul_zero, mul_zero, zero_at, zero_sm, add_zero, add_zero]
theorem psi_one (k : Nat) : psi X Y k one = one := by
  cases k with
  | zero => rw [psi, one_nil, one_sm]
  | succ k => rw [psi, der_one, der_one, psi_zero, mul_zero, mul_zero, one_nil, one_sm, add_zero, add_zero]
theorem der_ltr (x y : Bool) : der x (ltr y) = if y = x then one else zero := by
  apply ext
  intro w
  cases w with
  | nil => simp only [der_at, ltr]; split <;> rfl
  | cons z w => simp only [der_at, ltr]; split <;> rfl
theorem ltr_nil (x : Bool) : ltr x [] = 0 := rfl
theorem psi_ltr0 (k : Nat) : psi X Y (k + 1) (ltr false) = X := by
  rw [psi, der_ltr, der_ltr, if_pos rfl, if_neg (by decide), psi_one, psi_zero, mul_zero, mul_one, add_zero, ltr_nil, zero_sm, zero_add]
theorem psi_ltr1 (k : Nat) : psi X Y (k + 1) (ltr true) = Y := by
  rw [psi, der_ltr, der_ltr, if_neg (by decide), if_pos rfl, psi_one, psi_zero, mul_zero, mul_one, ltr_nil, zero_sm, zero_add, zero_add]
theorem psi_nil (hX : X [] = 0) (hY : Y [] = 0) (k : Nat) (f : Ser) : psi X Y k f [] = f [] := by
  cases k with
  | zero => rw [psi, sm_at, one_nil]; grind
  | succ k => rw [psi, add_at, add_at, sm_at, one_nil, mul_nil, mul_nil, hX, hY]; grind
theorem psi_step (hX : X [] = 0) (hY : Y [] = 0) (k : Nat) (f : Ser) : Eq k (psi X Y k f) (psi X Y (k + 1) f) := by
  induction k generalizing f with
  | zero =>
    intro w hw
    obtain rfl : w = [] := by cases w with | nil => rfl | cons _ _ => simp at hw
    rw [psi_nil hX hY, psi_nil hX hY]
  | succ k ih =>
    rw [psi, psi]
    exact Eq.add (Eq.refl _ _) (Eq.add (Eq.up hX (ih _)) (Eq.up hY (ih _)))
theorem psi_mul (hX : X [] = 0) (hY : Y [] = 0) (k : Nat) (f g : Ser) : Eq k (psi X Y k (f * g)) (psi X Y k f * psi X Y k g) := by
  induction k generalizing f with
  | zero =>
    intro w hw
    obtain rfl : w = [] := by cases w with | nil => rfl | cons _ _ => simp at hw
    rw [psi_nil hX hY, mul_nil, mul_nil, psi_nil hX hY, psi_nil hX hY]
  | succ k ih =>
    have h : ∀ x, Eq k (psi X Y k (der x (f * g))) (psi X Y k (der x f) * psi X Y (k + 1) g + sm (f []) (psi X Y k (der x g))) := by
      intro x
      rw [der_mul, psi_add, psi_sm]
      exact Eq.add ((ih _).trans (Eq.mul (Eq.refl _ _) (psi_step hX hY k g))) (Eq.refl _ _)
    have e : psi X Y (k + 1) f * psi X Y (k + 1) g = sm ((f * g) []) one + (X * (psi X Y k (der false f) * psi X Y (k + 1) g + sm (f []) (psi X Y k (der false g))) + Y * (psi X Y k (der true f) * psi X Y (k + 1) g + sm (f []) (psi X Y k (der true g)))) := by
      generalize hG : psi X Y (k + 1) g = G
      rw [psi, add_mul, add_mul, sm_mul, one_mul, mul_add, mul_add, mul_assoc, mul_assoc]
      have hG2 : sm (f []) G = sm ((f * g) []) one + (X * sm (f []) (psi X Y k (der false g)) + Y * sm (f []) (psi X Y k (der true g))) := by
        rw [← hG, psi, sm_add, sm_add, sm_sm, mul_sm, mul_sm, mul_nil]
      rw [hG2]
      apply ext
      intro w
      simp only [add_at]
      grind
    rw [e, psi]
    exact Eq.add (Eq.refl _ _) (Eq.add (Eq.up hX (h false)) (Eq.up hY (h true)))
theorem psi_pol (hX : X [] = 0) (hY : Y [] = 0) (k : Nat) (x : Ser) (c : List Fp) : Eq k (psi X Y k (pol x c)) (pol (psi X Y k x) c) := by
  induction c with
  | nil => rw [pol, pol, psi_zero]; exact Eq.refl _ _
  | cons a c ih =>
    rw [pol, pol, psi_add, psi_sm, psi_one]
    exact Eq.add (Eq.refl _ _) ((psi_mul hX hY k _ _).trans (Eq.mul (Eq.refl _ _) ih))
theorem psi_congr {k : Nat} {f g : Ser} (h : Eq k f g) : psi X Y k f = psi X Y k g := by
  induction k generalizing f g with
  | zero => rw [psi, psi, h [] (by simp)]
  | succ k ih => rw [psi, psi, h [] (by simp), ih (Eq.der false h), ih (Eq.der true h)]
end

/-! ### Lie elements -/
def brk (f g : Ser) : Ser := f * g - g * f
theorem jacobi (d x y : Ser) : brk d (brk x y) = brk (brk d x) y - brk (brk d y) x := by
  unfold brk
  simp only [mul_sub, sub_mul, mul_assoc]
  apply ext
  intro w
  simp only [sub_at]
  grind
theorem brk_add (f g h : Ser) : brk f (g + h) = brk f g + brk f h := by
  unfold brk
  rw [mul_add, add_mul]
  exact ext fun w => by simp only [sub_at, add_at]; grind
theorem add_brk (f g h : Ser) : brk (f + g) h = brk f h + brk g h := by
  unfold brk
  rw [mul_add, add_mul]
  exact ext fun w => by simp only [sub_at, add_at]; grind
theorem brk_sub (f g h : Ser) : brk f (g - h) = brk f g - brk f h := by
  unfold brk
  rw [mul_sub, sub_mul]
  exact ext fun w => by simp only [sub_at]; grind
theorem sub_brk (f g h : Ser) : brk (f - g) h = brk f h - brk g h := by
  unfold brk
  rw [mul_sub, sub_mul]
  exact ext fun w => by simp only [sub_at]; grind
theorem brk_sm (c : Fp) (f g : Ser) : brk f (sm c g) = sm c (brk f g) := by
  unfold brk
  rw [mul_sm, sm_mul]
  exact ext fun w => by simp only [sub_at, sm_at]; grind
theorem sm_brk (c : Fp) (f g : Ser) : brk (sm c f) g = sm c (brk f g) := by
  unfold brk
  rw [mul_sm, sm_mul]
  exact ext fun w => by simp only [sub_at, sm_at]; grind
theorem brk_zero (f : Ser) : brk f zero = zero := by
  unfold brk
  rw [mul_zero, zero_mul]
  exact ext fun w => by simp only [sub_at, zero_at]; grind
theorem zero_brk (f : Ser) : brk zero f = zero := by
  unfold brk
  rw [mul_zero, zero_mul]
  exact ext fun w => by simp only [sub_at, zero_at]; grind
theorem brk_neg (f g : Ser) : brk g f = sm (-1) (brk f g) := by
  unfold brk
  exact ext fun w => by simp only [sub_at, sm_at]; grind
theorem Eq.brk {n : Nat} {f g f' g' : Ser} (h1 : Eq n f f') (h2 : Eq n g g') : Eq n (brk f g) (brk f' g') := Eq.sub (Eq.mul h1 h2) (Eq.mul h2 h1)
theorem brk_nil (f g : Ser) : brk f g [] = 0 := by unfold brk; rw [sub_at, mul_nil, mul_nil]; grind

def brW (acc : Ser) : List Bool → Ser
  | [] => acc
  | y :: r => brW (brk acc (ltr y)) r
theorem brW_snoc (acc : Ser) (r : List Bool) (y : Bool) : brW acc (r ++ [y]) = brk (brW acc r) (ltr y) := by
  induction r generalizing acc with
  | nil => rfl
  | cons z r ih => exact ih _
inductive Sp : Ser → Prop
  | zero : Sp zero
  | add {f g : Ser} : Sp f → Sp g → Sp (f + g)
  | sm (c : Fp) {f : Ser} : Sp f → Sp (sm c f)
  | br (x : Bool) (r : List Bool) : Sp (brW (ltr x) r)
theorem Sp.ltr (x : Bool) : Sp (ltr x) := .br x []
theorem Sp.sub {f g : Ser} (h1 : Sp f) (h2 : Sp g) : Sp (f - g) := by rw [sub_eq]; exact .add h1 (.sm _ h2)
theorem Sp.brl {f : Ser} (h : Sp f) (y : Bool) : Sp (brk f (Ser.ltr y)) := by
  induction h with
  | zero => rw [zero_brk]; exact .zero
  | add _ _ h1 h2 => rw [add_brk]; exact .add h1 h2
  | sm c _ h1 => rw [sm_brk]; exact .sm c h1
  | br x r => rw [← brW_snoc]; exact .br _ _
/-- A list from its end. -/
theorem snoc_ind {p : List Bool → Prop} (h0 : p []) (h1 : ∀ r y, p r → p (r ++ [y])) (l : List Bool) : p l := by
  have key : ∀ l : List Bool, p l.reverse := by
    intro l
    induction l with
    | nil => exact h0
    | cons y r ih => rw [List.reverse_cons]; exact h1 _ _ ih
  have := key l.reverse
  rwa [List.reverse_reverse] at this
theorem Sp.brk {f g : Ser} (hf : Sp f) (hg : Sp g) : Sp (brk f g) := by
  induction hg with
  | zero => rw [brk_zero]; exact .zero
  | add _ _ h1 h2 => rw [brk_add]; exact .add h1 h2
  | sm c _ h1 => rw [brk_sm]; exact .sm c h1
  | br x r =>
    revert f
    refine snoc_ind (p := fun r => ∀ {f : Ser}, Sp f → Sp (Ser.brk f (brW (Ser.ltr x) r))) ?_ ?_ r
    · exact fun h => h.brl x
    · intro r y ih f hf
      rw [brW_snoc, jacobi]
      exact .sub ((ih hf).brl y) (ih (hf.brl y))
theorem Sp.nil {f : Ser} (h : Sp f) : f [] = 0 := by
  induction h with
  | zero => rfl
  | add _ _ h1 h2 => rw [add_at, h1, h2]; grind
  | sm c _ h1 => rw [sm_at, h1]; grind
  | br x r =>
    refine snoc_ind (p := fun r => brW (Ser.ltr x) r [] = 0) rfl ?_ r
    intro r y _
    rw [brW_snoc, brk_nil]
def SpE (f : Ser) : Prop := ∃ g, Sp g ∧ Eq 5 f g
theorem SpE.congr {f g : Ser} (h : SpE f) (e : Eq 5 g f) : SpE g := by
  obtain ⟨k, h1, h2⟩ := h
  exact ⟨k, h1, e.trans h2⟩
theorem SpE.brk {f g : Ser} (h1 : SpE f) (h2 : SpE g) : SpE (Ser.brk f g) := by
  obtain ⟨a, h3, h4⟩ := h1
  obtain ⟨b, h5, h6⟩ := h2
  exact ⟨_, h3.brk h5, Eq.brk h4 h6⟩
theorem SpE.psi {X Y : Ser} (hX : Sp X) (hY : Sp Y) {f : Ser} (h : SpE f) : SpE (psi X Y 5 f) := by
  obtain ⟨g, h1, h2⟩ := h
  rw [psi_congr h2]
  clear h2
  induction h1 with
  | zero => rw [psi_zero]; exact ⟨_, .zero, Eq.refl _ _⟩
  | add _ _ h1 h2 =>
    obtain ⟨a, h3, h4⟩ := h1
    obtain ⟨b, h5, h6⟩ := h2
    rw [psi_add]
    exact ⟨_, .add h3 h5, Eq.add h4 h6⟩
  | sm c _ h1 =>
    obtain ⟨a, h3, h4⟩ := h1
    rw [psi_sm]
    exact ⟨_, .sm c h3, Eq.sm c h4⟩
  | br x r =>
    have hl : ∀ y, SpE (Ser.psi X Y 5 (Ser.ltr y)) := by
      intro y
      cases y
      · rw [psi_ltr0]; exact ⟨_, hX, Eq.refl _ _⟩
      · rw [psi_ltr1]; exact ⟨_, hY, Eq.refl _ _⟩
    refine snoc_ind (p := fun r => SpE (Ser.psi X Y 5 (brW (Ser.ltr x) r))) (hl x) ?_ r
    intro r y ih
    rw [brW_snoc]
    refine (ih.brk (hl y)).congr ?_
    unfold Ser.brk
    rw [psi_sub]
    exact Eq.sub (psi_mul hX.nil hY.nil 5 _ _) (psi_mul hX.nil hY.nil 5 _ _)

/-! ### Dynkin's sum of brackets -/
def dyG (acc : Ser) : Nat → Ser → Ser
  | 0, u => sm (u []) acc
  | k + 1, u => sm (u []) acc + (dyG (brk acc (ltr false)) k (der false u) + dyG (brk acc (ltr true)) k (der true u))
theorem dyG_s (acc : Ser) (k : Nat) (u : Ser) : dyG acc (k + 1) u = sm (u []) acc + (dyG (brk acc (ltr false)) k (der false u) + dyG (brk acc (ltr true)) k (der true u)) := rfl
theorem dyG_z (acc : Ser) (u : Ser) : dyG acc 0 u = sm (u []) acc := rfl
def dyn (k : Nat) (u : Ser) : Ser := dyG (ltr false) k (der false u) + dyG (ltr true) k (der true u)
theorem dyG_add (acc : Ser) (k : Nat) (u v : Ser) : dyG acc k (u + v) = dyG acc k u + dyG acc k v := by
  induction k generalizing acc u v with
  | zero => rw [dyG, dyG, dyG, add_at, add_sm]
  | succ k ih =>
    rw [dyG, dyG, dyG, der_add, der_add, ih, ih, add_at, add_sm]
    exact ext fun w => by simp only [add_at]; grind
theorem dyG_sm (acc : Ser) (k : Nat) (c : Fp) (u : Ser) : dyG acc k (sm c u) = sm c (dyG acc k u) := by
  induction k generalizing acc u with
  | zero => rw [dyG, dyG, sm_at, sm_sm]
  | succ k ih => rw [dyG, dyG, der_sm, der_sm, ih, ih, sm_at, sm_add, sm_add, sm_sm]
theorem dyG_zero (acc : Ser) (k : Nat) : dyG acc k zero = zero := by
  induction k generalizing acc with
  | zero => rw [dyG, zero_at, zero_sm]
  | succ k ih => rw [dyG, der_zero, der_zero, ih, ih, zero_at, zero_sm, add_zero, add_zero]
theorem dyG_one (acc : Ser) (k : Nat) : dyG acc k one = acc := by
  cases k with
  | zero => rw [dyG, one_nil, one_sm]
  | succ k => rw [dyG, der_one, der_one, dyG_zero, dyG_zero, one_nil, one_sm, add_zero, add_zero]
theorem dyG_mul (acc : Ser) (k : Nat) (u : Ser) (y : Bool) : dyG acc (k + 1) (u * ltr y) = brk (dyG acc k u) (ltr y) := by
  have hone : ∀ k x, dyG (brk acc (ltr x)) k (sm (u []) (der x (ltr y))) = if y = x then sm (u []) (brk acc (ltr y)) else zero := by
    intro k x
    rw [dyG_sm, der_ltr]
    split
    · rename_i h; rw [dyG_one, h]
    · rw [dyG_zero, sm_zero]
  have hs : ∀ f : Ser, (if y = false then f else zero) + (if y = true then f else zero) = f := by
    intro f
    cases y
    · simp [add_zero]
    · simp [zero_add]
  induction k generalizing acc u with
  | zero =>
    have h0 : ∀ x, dyG (brk acc (ltr x)) 0 (der x u * ltr y) = zero := by
      intro x
      rw [dyG, mul_nil, ltr_nil]
      exact ext fun w => by simp only [sm_at, zero_at]; grind
    rw [dyG_s, der_mul, der_mul, dyG_add, dyG_add, hone, hone, h0, h0, zero_add, zero_add, hs, mul_nil, ltr_nil, dyG_z, sm_brk]
    exact ext fun w => by simp only [sm_at, add_at]; grind
  | succ k ih =>
    have hone' : ∀ (acc' : Ser) (u' : Ser) (k : Nat) (x : Bool), dyG (brk acc' (ltr x)) k (sm (u' []) (der x (ltr y))) = if y = x then sm (u' []) (brk acc' (ltr y)) else zero := by
      intro acc' u' k x
      rw [dyG_sm, der_ltr]
      split
      · rename_i h; rw [dyG_one, h]
      · rw [dyG_zero, sm_zero]
    rw [dyG_s, der_mul, der_mul, dyG_add, dyG_add, hone, hone, ih _ _ (fun k x => hone' _ _ k x), ih _ _ (fun k x => hone' _ _ k x), mul_nil, ltr_nil, dyG_s, add_brk, add_brk, sm_brk]
    have h2 := hs (sm (u []) (brk acc (ltr y)))
    generalize (if y = false then sm (u []) (brk acc (ltr y)) else zero) = a at h2 ⊢
    generalize (if y = true then sm (u []) (brk acc (ltr y)) else zero) = b at h2 ⊢
    rw [← h2]
    exact ext fun w => by simp only [sm_at, add_at]; grind
theorem dyn_mul {u : Ser} (hu : u [] = 0) (k : Nat) (y : Bool) : dyn (k + 1) (u * ltr y) = brk (dyn k u) (ltr y) := by
  have h : ∀ x, dyG (ltr x) (k + 1) (der x (u * ltr y)) = brk (dyG (ltr x) k (der x u)) (ltr y) := by
    intro x
    rw [der_mul, hu, zero_sm, add_zero, dyG_mul]
  rw [dyn, dyn, h, h, add_brk]

theorem dyn_add (k : Nat) (u v : Ser) : dyn k (u + v) = dyn k u + dyn k v := by
  rw [dyn, dyn, dyn, der_add, der_add, dyG_add, dyG_add]
  exact ext fun w => by simp only [add_at]; grind
theorem dyn_sm (k : Nat) (c : Fp) (u : Ser) : dyn k (sm c u) = sm c (dyn k u) := by
  rw [dyn, dyn, der_sm, der_sm, dyG_sm, dyG_sm, sm_add]
theorem dyn_sub (k : Nat) (u v : Ser) : dyn k (u - v) = dyn k u - dyn k v := by rw [sub_eq, dyn_add, dyn_sm, ← sub_eq]
theorem dyn_zero (k : Nat) : dyn k zero = zero := by rw [dyn, der_zero, der_zero, dyG_zero, dyG_zero, add_zero]
theorem dyG_congr (acc : Ser) {k : Nat} {f g : Ser} (h : Eq k f g) : dyG acc k f = dyG acc k g := by
  induction k generalizing acc f g with
  | zero => rw [dyG, dyG, h [] (by simp)]
  | succ k ih => rw [dyG, dyG, h [] (by simp), ih _ (Eq.der false h), ih _ (Eq.der true h)]
theorem dyn_congr {k : Nat} {f g : Ser} (h : Eq (k + 1) f g) : dyn k f = dyn k g := by
  rw [dyn, dyn, dyG_congr _ (Eq.der false h), dyG_congr _ (Eq.der true h)]
def Low (m : Nat) (f : Ser) : Prop := ∀ w, w.length < m → f w = 0
theorem Low.mul {m : Nat} {g : Ser} (hg : Low m g) (y : Bool) : Low (m + 1) (g * ltr y) := by
  intro w
  induction w generalizing g m with
  | nil => intro _; rw [mul_nil, ltr_nil]; grind
  | cons x w ih =>
    intro hw
    simp only [List.length_cons] at hw
    cases m with
    | zero => omega
    | succ m =>
      have hg0 : g [] = 0 := hg [] (by simp)
      have hd : Low m (der x g) := fun v hv => hg (x :: v) (by simpa using hv)
      rw [mul_cons, hg0, ih hd (by omega)]; grind
theorem Low.brk {m : Nat} {f : Ser} (h : Low m f) (y : Bool) : Low (m + 1) (brk f (ltr y)) := by
  have h2 : Low (m + 1) (ltr y * f) := by
    intro w hw
    cases w with
    | nil => rw [mul_nil, ltr_nil]; grind
    | cons x w =>
      simp only [List.length_cons] at hw
      rw [mul_cons, ltr_nil, der_ltr]
      split
      · rw [one_mul, h w (by omega)]; grind
      · rw [zero_mul, zero_at]; grind
  intro w hw
  unfold Ser.brk
  rw [sub_at, h.mul y w hw, h2 w hw]; grind
theorem dyG_step {m : Nat} {acc : Ser} (h : Low m acc) (k : Nat) (u : Ser) : Eq (m + k) (dyG acc k u) (dyG acc (k + 1) u) := by
  induction k generalizing acc u m with
  | zero =>
    intro w hw
    rw [dyG_s, dyG_z, dyG_z, dyG_z, add_at, add_at, sm_at, sm_at, sm_at, h.brk false w (by omega), h.brk true w (by omega)]
    grind
  | succ k ih =>
    rw [dyG_s, dyG_s]
    have e : m + (k + 1) = m + 1 + k := by omega
    rw [e]
    exact Eq.add (Eq.refl _ _) (Eq.add (ih (h.brk false) _) (ih (h.brk true) _))
theorem low_ltr (x : Bool) : Low 1 (ltr x) := by
  intro w hw
  obtain rfl : w = [] := by cases w with | nil => rfl | cons _ _ => simp at hw
  rfl
theorem dyn_step (k : Nat) (u : Ser) : Eq (k + 1) (dyn k u) (dyn (k + 1) u) := by
  intro w hw
  rw [dyn, dyn]
  exact Eq.add (dyG_step (low_ltr _) _ _) (dyG_step (low_ltr _) _ _) w (by omega)
/-- The sum of brackets of a product with a Lie element. -/
theorem dyn_sp {g : Ser} (hg : Sp g) : ∀ u : Ser, u [] = 0 → Eq 5 (dyn 4 (u * g)) (brk (dyn 4 u) g) := by
  induction hg with
  | zero => intro u _; rw [mul_zero, dyn_zero, brk_zero]; exact Eq.refl _ _
  | add _ _ h1 h2 => intro u hu; rw [mul_add, dyn_add, brk_add]; exact Eq.add (h1 u hu) (h2 u hu)
  | sm c _ h1 => intro u hu; rw [mul_sm, dyn_sm, brk_sm]; exact Eq.sm c (h1 u hu)
  | br x r =>
    have hl : ∀ (y : Bool) (u : Ser), u [] = 0 → Eq 5 (dyn 4 (u * ltr y)) (brk (dyn 4 u) (ltr y)) := by
      intro y u hu
      rw [← dyn_mul hu]
      exact dyn_step 4 _
    refine snoc_ind (p := fun r => ∀ u : Ser, u [] = 0 → Eq 5 (dyn 4 (u * brW (ltr x) r)) (brk (dyn 4 u) (brW (ltr x) r))) (hl x) ?_ r
    intro r y ih u hu
    have hz : ∀ v : Ser, (u * v) [] = 0 := fun v => by rw [mul_nil, hu]; grind
    rw [brW_snoc, jacobi]
    have e : u * brk (brW (ltr x) r) (ltr y) = u * brW (ltr x) r * ltr y - u * ltr y * brW (ltr x) r := by
      unfold brk
      rw [mul_sub, mul_assoc, mul_assoc]
    rw [e, dyn_sub]
    refine Eq.sub ((hl y _ (hz _)).trans (Eq.brk (ih u hu) (Eq.refl _ _))) ((ih _ (hz _)).trans (Eq.brk (hl y u hu) (Eq.refl _ _)))

def lenF : List Bool → Fp
  | [] => 0
  | _ :: w => lenF w + 1
def eul (f : Ser) : Ser := fun w => lenF w * f w
theorem eul_at (f : Ser) (w : List Bool) : eul f w = lenF w * f w := rfl
theorem lenF_cons (x : Bool) (w : List Bool) : lenF (x :: w) = lenF w + 1 := rfl
theorem eul_nil (f : Ser) : eul f [] = 0 := by rw [eul_at, lenF]; grind
theorem der_eul (x : Bool) (f : Ser) : der x (eul f) = eul (der x f) + der x f := ext fun w => by rw [der_at, add_at, eul_at, eul_at, der_at, lenF]; grind
theorem eul_mul (f g : Ser) : eul (f * g) = eul f * g + f * eul g := by
  apply ext
  intro w
  induction w generalizing f with
  | nil => rw [add_at, mul_nil, mul_nil, eul_nil, eul_nil, eul_nil]; grind
  | cons x w ih =>
    have h := ih (der x f)
    rw [add_at, eul_at] at h
    rw [add_at, eul_at, mul_cons, mul_cons, mul_cons, der_eul, add_mul, add_at, eul_nil, eul_at, lenF_cons]
    grind
theorem eul_sub (f g : Ser) : eul (f - g) = eul f - eul g := ext fun w => by rw [sub_at, eul_at, eul_at, eul_at, sub_at]; grind
theorem eul_ltr (x : Bool) : eul (ltr x) = ltr x := by
  apply ext
  intro w
  rw [eul_at]
  match w with
  | [] => rw [ltr_nil]; grind
  | [y] => rw [lenF, lenF]; grind
  | _ :: _ :: _ => show _ * (0 : Fp) = 0; grind
theorem dyn_ltr (y : Bool) : dyn 4 (ltr y) = ltr y := by
  rw [dyn, der_ltr, der_ltr]
  cases y
  · simp only [if_true, Bool.false_eq_true, if_false, dyG_one, dyG_zero, add_zero]
  · simp only [if_true, Bool.true_eq_false, if_false, dyG_one, dyG_zero, zero_add]
/-- Lie elements pass Dynkin's test. -/
theorem dyn_eul {g : Ser} (hg : Sp g) : Eq 5 (dyn 4 g) (eul g) := by
  induction hg with
  | zero => rw [dyn_zero]; exact fun w _ => by rw [eul_at, zero_at]; grind
  | @add f g _ _ h1 h2 =>
    rw [dyn_add]
    refine (Eq.add h1 h2).trans (Eq.of (ext fun w => ?_))
    rw [add_at, eul_at, eul_at, eul_at, add_at]; grind
  | @sm c f _ h1 =>
    rw [dyn_sm]
    refine (Eq.sm c h1).trans (Eq.of (ext fun w => ?_))
    rw [sm_at, eul_at, eul_at, sm_at]; grind
  | br x r =>
    refine snoc_ind (p := fun r => Eq 5 (dyn 4 (brW (ltr x) r)) (eul (brW (ltr x) r))) ?_ ?_ r
    · show Eq 5 (dyn 4 (ltr x)) (eul (ltr x))
      rw [dyn_ltr, eul_ltr]
      exact Eq.refl _ _
    · intro r y ih
      rw [brW_snoc]
      have hn : brW (ltr x) r [] = 0 := (Sp.br x r).nil
      have h1 : Eq 5 (dyn 4 (brW (ltr x) r * ltr y)) (brk (eul (brW (ltr x) r)) (ltr y)) :=
        (dyn_sp (.ltr y) _ hn).trans (Eq.brk ih (Eq.refl _ _))
      have h2 : Eq 5 (dyn 4 (ltr y * brW (ltr x) r)) (brk (ltr y) (brW (ltr x) r)) := by
        have := dyn_sp (.br x r) (ltr y) (ltr_nil y)
        rwa [dyn_ltr] at this
      generalize brW (ltr x) r = g at h1 h2 hn ⊢
      rw [show brk g (ltr y) = g * ltr y - ltr y * g from rfl, dyn_sub]
      refine (Eq.sub h1 h2).trans (Eq.of ?_)
      rw [eul_sub, eul_mul, eul_mul, eul_ltr]
      unfold brk
      exact ext fun w => by simp only [sub_at, add_at]; grind
theorem SpE.dyn {f : Ser} (h : SpE f) : Eq 5 (dyn 4 f) (eul f) := by
  obtain ⟨g, h1, h2⟩ := h
  rw [dyn_congr h2]
  refine (dyn_eul h1).trans fun w hw => ?_
  rw [eul_at, eul_at, h2 w hw]

/-! ### Exponentials and logarithms -/
def expC : List Fp := [1, 1, 500000136, 166666712, 41666678, 408333444]
def logC : List Fp := [0, 1, 500000135, 333333424, 750000203, 800000217]
def expS (x : Ser) : Ser := pol x expC
def logS (s : Ser) : Ser := pol (s - one) logC
theorem expS_nil {x : Ser} (hx : x [] = 0) : expS x [] = 1 := pol_nil hx _ _
theorem pol_10 (x : Ser) : pol x [1, 1, 0, 0, 0, 0] = one + x := by
  simp only [pol, zero_sm, mul_zero, add_zero, one_sm, mul_one]
theorem pol_01 (x : Ser) : pol x [0, 1, 0, 0, 0, 0] = x := by
  simp only [pol, zero_sm, mul_zero, add_zero, one_sm, mul_one, zero_add]
theorem pol_00 (x : Ser) : pol x [1, 0, 0, 0, 0, 0] = one := by
  simp only [pol, zero_sm, mul_zero, add_zero, one_sm]
theorem com_el : (comC expC logC).take 6 = [1, 1, 0, 0, 0, 0] := by decide +kernel
theorem com_le : (comC logC (addC expC [-1])).take 6 = [0, 1, 0, 0, 0, 0] := by decide +kernel
theorem com_inv : (mulC expC (comC expC [0, -1])).take 6 = [1, 0, 0, 0, 0, 0] := by decide +kernel
theorem exp_log {s : Ser} (hs : s [] = 1) : Eq 5 (expS (logS s)) s := by
  have hr : (s - one) [] = 0 := by rw [sub_at, hs, one_nil]; grind
  unfold expS logS
  rw [← pol_com]
  refine (pol_take hr 5 _).trans ?_
  rw [com_el, pol_10]
  exact Eq.of (ext fun w => by rw [add_at, sub_at]; grind)
theorem log_exp {x : Ser} (hx : x [] = 0) : Eq 5 (logS (expS x)) x := by
  have e : expS x - one = pol x (addC expC [-1]) := by
    rw [pol_add, show pol x [-1] = sm (-1) one by rw [pol, pol, mul_zero, add_zero], ← sub_eq]
    rfl
  unfold logS
  rw [e, ← pol_com]
  refine (pol_take hx 5 _).trans ?_
  rw [com_le, pol_01]
  exact Eq.refl _ _
theorem exp_inv {x : Ser} (hx : x [] = 0) : Eq 5 (expS x * expS (sm (-1) x)) one := by
  have e : sm (-1) x = pol x [0, -1] := by simp only [pol, zero_sm, mul_zero, add_zero, zero_add, mul_sm, mul_one]
  unfold expS
  rw [e, ← pol_com, ← pol_mul]
  refine (pol_take hx 5 _).trans ?_
  rw [com_inv, pol_00]
  exact Eq.refl _ _

/-! ### Reckoning with trees -/
inductive Tr
  | z : Tr
  | n : Fp → Tr → Tr → Tr
def den : Tr → Ser
  | .z => zero
  | .n c l r => fun w => match w with
    | [] => c
    | false :: w => den l w
    | true :: w => den r w
def addT : Tr → Tr → Tr
  | .z, t => t
  | .n c l r, .z => .n c l r
  | .n c l r, .n c' l' r' => .n (c + c') (addT l l') (addT r r')
def smT (k : Fp) : Tr → Tr
  | .z => .z
  | .n c l r => .n (k * c) (smT k l) (smT k r)
def mulT : Tr → Tr → Tr
  | .z, _ => .z
  | .n c l r, b => addT (.n 0 (mulT l b) (mulT r b)) (smT c b)
def cut : Nat → Tr → Tr
  | _, .z => .z
  | 0, .n c _ _ => .n c .z .z
  | k + 1, .n c l r => .n c (cut k l) (cut k r)
def nilT : Tr → Bool
  | .z => true
  | .n c l r => c == 0 && (nilT l && nilT r)
def eqT : Tr → Tr → Bool
  | .z, t => nilT t
  | .n c l r, .z => c == 0 && (nilT l && nilT r)
  | .n c l r, .n c' l' r' => c == c' && (eqT l l' && eqT r r')
def oneT : Tr := .n 1 .z .z
def ltrT : Bool → Tr
  | false => .n 0 oneT .z
  | true => .n 0 .z oneT
def polT (x : Tr) : List Fp → Tr
  | [] => .z
  | c :: cs => addT (smT c oneT) (cut 5 (mulT x (polT x cs)))
def brkT (a b : Tr) : Tr := addT (mulT a b) (smT (-1) (mulT b a))
def hdT : Tr → Fp
  | .z => 0
  | .n c _ _ => c
def lT : Tr → Tr
  | .z => .z
  | .n _ l _ => l
def rT : Tr → Tr
  | .z => .z
  | .n _ _ r => r
def dyT (acc : Tr) : Nat → Tr → Tr
  | 0, u => smT (hdT u) acc
  | k + 1, u => addT (smT (hdT u) acc) (addT (dyT (brkT acc (ltrT false)) k (lT u)) (dyT (brkT acc (ltrT true)) k (rT u)))
def dynT (k : Nat) (u : Tr) : Tr := addT (dyT (ltrT false) k (lT u)) (dyT (ltrT true) k (rT u))
def divT : List Fp → Tr → Tr
  | _, .z => .z
  | [], .n _ _ _ => .z
  | k :: ks, .n c l r => .n (k * c) (divT ks l) (divT ks r)
theorem den_add (a b : Tr) : den (addT a b) = den a + den b := by
  induction a generalizing b with
  | z => rw [addT, den, zero_add]
  | n c l r h1 h2 =>
    cases b with
    | z => rw [addT, show den .z = zero from rfl, add_zero]
    | n c' l' r' =>
      apply ext
      intro w
      rw [addT, add_at]
      match w with
      | [] => rfl
      | false :: w => show den (addT l l') w = _; rw [h1]; rfl
      | true :: w => show den (addT r r') w = _; rw [h2]; rfl
theorem den_sm (k : Fp) (a : Tr) : den (smT k a) = sm k (den a) := by
  induction a with
  | z => rw [smT, den, sm_zero]
  | n c l r h1 h2 =>
    apply ext
    intro w
    rw [smT, sm_at]
    match w with
    | [] => rfl
    | false :: w => show den (smT k l) w = _; rw [h1]; rfl
    | true :: w => show den (smT k r) w = _; rw [h2]; rfl
theorem den_mul (a b : Tr) : den (mulT a b) = den a * den b := by
  induction a with
  | z => rw [mulT, den, zero_mul]
  | n c l r h1 h2 =>
    apply ext
    intro w
    rw [mulT, den_add, add_at, den_sm, sm_at]
    match w with
    | [] => rw [mul_nil]; show (0 : Fp) + _ = _; rw [show den (.n c l r) [] = c from rfl]; grind
    | false :: w => rw [mul_cons]; show den (mulT l b) w + _ = _; rw [h1]; rfl
    | true :: w => rw [mul_cons]; show den (mulT r b) w + _ = _; rw [h2]; rfl
theorem den_cut (k : Nat) (a : Tr) : Eq k (den (cut k a)) (den a) := by
  induction a generalizing k with
  | z => cases k <;> exact Eq.refl _ _
  | n c l r h1 h2 =>
    cases k with
    | zero =>
      intro w hw
      obtain rfl : w = [] := by cases w with | nil => rfl | cons _ _ => simp at hw
      rfl
    | succ k =>
      intro w hw
      match w with
      | [] => rfl
      | false :: w => exact h1 k w (by simpa using hw)
      | true :: w => exact h2 k w (by simpa using hw)
theorem den_nil {a : Tr} (h : nilT a = true) : den a = zero := by
  induction a with
  | z => rfl
  | n c l r h1 h2 =>
    simp only [nilT, Bool.and_eq_true, beq_iff_eq] at h
    apply ext
    intro w
    match w with
    | [] => exact h.1
    | false :: w => exact congrFun (h1 h.2.1) w
    | true :: w => exact congrFun (h2 h.2.2) w
theorem den_eq {a b : Tr} (h : eqT a b = true) : den a = den b := by
  induction a generalizing b with
  | z => exact (den_nil h).symm
  | n c l r h1 h2 =>
    cases b with
    | z => exact den_nil (a := .n c l r) h
    | n c' l' r' =>
      simp only [eqT, Bool.and_eq_true, beq_iff_eq] at h
      apply ext
      intro w
      match w with
      | [] => exact h.1
      | false :: w => exact congrFun (h1 h.2.1) w
      | true :: w => exact congrFun (h2 h.2.2) w
theorem den_one : den oneT = one := ext fun w => match w with
  | [] => rfl
  | false :: _ => rfl
  | true :: _ => rfl
theorem den_ltr (x : Bool) : den (ltrT x) = ltr x := by
  apply ext
  intro w
  cases x
  · match w with
    | [] => rfl
    | false :: w => show den oneT w = _; rw [den_one]; cases w <;> rfl
    | true :: w => cases w <;> rfl
  · match w with
    | [] => rfl
    | true :: w => show den oneT w = _; rw [den_one]; cases w <;> rfl
    | false :: w => cases w <;> rfl
theorem den_pol (x : Tr) (c : List Fp) : Eq 5 (den (polT x c)) (pol (den x) c) := by
  induction c with
  | nil => exact Eq.refl _ _
  | cons a c ih =>
    rw [polT, pol, den_add, den_sm, den_one]
    refine Eq.add (Eq.refl _ _) ((den_cut 5 _).trans ?_)
    rw [den_mul]
    exact Eq.mul (Eq.refl _ _) ih
theorem den_brk (a b : Tr) : den (brkT a b) = brk (den a) (den b) := by rw [brkT, den_add, den_sm, den_mul, den_mul, ← sub_eq]; rfl
theorem den_hd (a : Tr) : den a [] = hdT a := by cases a <;> rfl
theorem den_l (a : Tr) : der false (den a) = den (lT a) := by cases a <;> rfl
theorem den_r (a : Tr) : der true (den a) = den (rT a) := by cases a <;> rfl
theorem den_dy (acc : Tr) (k : Nat) (u : Tr) : den (dyT acc k u) = dyG (den acc) k (den u) := by
  induction k generalizing acc u with
  | zero => rw [dyT, dyG_z, den_sm, den_hd]
  | succ k ih => rw [dyT, dyG_s, den_add, den_add, ih, ih, den_sm, den_hd, den_l, den_r, den_brk, den_brk, den_ltr, den_ltr]
theorem den_dyn (k : Nat) (u : Tr) : den (dynT k u) = dyn k (den u) := by rw [dynT, dyn, den_add, den_dy, den_dy, den_l, den_r, den_ltr, den_ltr]
theorem sp_dyG {acc : Ser} (h : Sp acc) (k : Nat) (u : Ser) : Sp (dyG acc k u) := by
  induction k generalizing acc u with
  | zero => rw [dyG_z]; exact .sm _ h
  | succ k ih => rw [dyG_s]; exact .add (.sm _ h) (.add (ih (h.brl _) _) (ih (h.brl _) _))
theorem sp_dyn (k : Nat) (u : Ser) : Sp (dyn k u) := .add (sp_dyG (.ltr _) _ _) (sp_dyG (.ltr _) _ _)

/-- The first terms of the logarithm of a product of two exponentials. -/
def bchS : Ser := logS (expS (ltr false) * expS (ltr true))
def bchT : Tr := polT (addT (cut 5 (mulT (polT (ltrT false) expC) (polT (ltrT true) expC))) (smT (-1) oneT)) logC
theorem den_bch : Eq 5 (den bchT) bchS := by
  unfold bchT bchS logS
  refine (den_pol _ _).trans (pol_congr ?_ _)
  rw [den_add, den_sm, den_one, ← sub_eq]
  refine Eq.sub ((den_cut 5 _).trans ?_) (Eq.refl _ _)
  rw [den_mul]
  unfold expS
  refine Eq.mul ?_ ?_
  · have := den_pol (ltrT false) expC
    rwa [den_ltr] at this
  · have := den_pol (ltrT true) expC
    rwa [den_ltr] at this
theorem bch_lie : eqT (cut 5 (dynT 4 (divT [0, 1, 500000136, 333333424, 250000068, 800000217] bchT))) (cut 5 bchT) = true := by decide +kernel
theorem bch_sp : SpE bchS := by
  refine ⟨dyn 4 (den (divT [0, 1, 500000136, 333333424, 250000068, 800000217] bchT)), sp_dyn _ _, den_bch.symm.trans ?_⟩
  rw [← den_dyn]
  refine (den_cut 5 _).symm.trans ((Eq.of (den_eq bch_lie).symm).trans (den_cut 5 _))

/-- One exponential of a letter more keeps the logarithm a Lie element. -/
theorem lie_step {s Y : Ser} (hs : s [] = 1) (h : SpE (logS s)) (hY : Sp Y) : SpE (logS (s * expS Y)) := by
  have hel := exp_log hs
  obtain ⟨X, hX, e⟩ := h
  have hXn := hX.nil
  have hYn := hY.nil
  refine (SpE.psi hX hY bch_sp).congr ?_
  have hp : ∀ (x : Ser) (y : Ser), psi X Y 5 x = y → Eq 5 (psi X Y 5 (expS x)) (expS y) := by
    intro x y hxy
    rw [← hxy]
    exact psi_pol hXn hYn 5 x expC
  have h0 := hp _ _ (psi_ltr0 4)
  have h1 := hp _ _ (psi_ltr1 4)
  have h2 : Eq 5 (psi X Y 5 (expS (ltr false) * expS (ltr true))) (s * expS Y) := by
    refine (psi_mul hXn hYn 5 _ _).trans (Eq.mul (h0.trans ?_) h1)
    exact (pol_congr e expC).symm.trans hel
  unfold bchS logS
  refine Eq.symm ((psi_pol hXn hYn 5 _ _).trans (pol_congr ?_ _))
  rw [psi_sub, psi_one]
  exact Eq.sub h2 (Eq.refl _ _)

/-! ### The turn of each letter's sign -/
def sgnW : List Bool → Fp
  | [] => 1
  | _ :: w => -sgnW w
def alt (f : Ser) : Ser := fun w => sgnW w * f w
theorem alt_at (f : Ser) (w : List Bool) : alt f w = sgnW w * f w := rfl
theorem alt_nil (f : Ser) : alt f [] = f [] := by rw [alt_at, sgnW]; grind
theorem der_alt (x : Bool) (f : Ser) : der x (alt f) = sm (-1) (alt (der x f)) := ext fun w => by rw [der_at, alt_at, sm_at, alt_at, der_at, sgnW]; grind
theorem alt_mul (f g : Ser) : alt (f * g) = alt f * alt g := by
  apply ext
  intro w
  induction w generalizing f with
  | nil => rw [alt_nil, mul_nil, mul_nil, alt_nil, alt_nil]
  | cons x w ih =>
    have h := ih (der x f)
    rw [alt_at] at h
    rw [alt_at, mul_cons, mul_cons, der_alt, sm_mul, sm_at, ← h, alt_nil, alt_at, sgnW]
    grind
theorem alt_add (f g : Ser) : alt (f + g) = alt f + alt g := ext fun w => by rw [alt_at, add_at, add_at, alt_at, alt_at]; grind
theorem alt_sm (c : Fp) (f : Ser) : alt (sm c f) = sm c (alt f) := ext fun w => by rw [alt_at, sm_at, sm_at, alt_at]; grind
theorem alt_one : alt one = one := ext fun w => by
  cases w with
  | nil => rw [alt_nil]
  | cons x w => rw [alt_at, one_cons]; grind
theorem alt_zero : alt zero = zero := ext fun w => by rw [alt_at, zero_at]; grind
theorem alt_ltr (x : Bool) : alt (ltr x) = sm (-1) (ltr x) := by
  apply ext
  intro w
  rw [alt_at, sm_at]
  match w with
  | [] => rw [ltr_nil]; grind
  | [y] => rw [sgnW, sgnW]
  | _ :: _ :: _ => show _ * (0 : Fp) = _ * (0 : Fp); grind
theorem alt_pol (x : Ser) (c : List Fp) : alt (pol x c) = pol (alt x) c := by
  induction c with
  | nil => rw [pol, pol, alt_zero]
  | cons a c ih => rw [pol, pol, alt_add, alt_sm, alt_one, alt_mul, ih]
theorem Eq.alt {n : Nat} {f g : Ser} (h : Eq n f g) : Eq n (alt f) (alt g) := fun w hw => by rw [alt_at, alt_at, h w hw]

/-! ### Products of flows -/
def flow (m : Bool × Fp) : Ser := expS (sm m.2 (ltr m.1))
def sch : List (Bool × Fp) → Ser
  | [] => one
  | m :: r => flow m * sch r
def negM (m : Bool × Fp) : Bool × Fp := (m.1, -m.2)
theorem ltr0 (c : Fp) (x : Bool) : sm c (ltr x) [] = 0 := by rw [sm_at, ltr_nil]; grind
theorem sch_app (l k : List (Bool × Fp)) : sch (l ++ k) = sch l * sch k := by
  induction l with
  | nil => rw [List.nil_append, sch, one_mul]
  | cons m r ih => rw [List.cons_append, sch, sch, ih, mul_assoc]
theorem flow_inv (m : Bool × Fp) : Eq 5 (flow m * flow (negM m)) one := by
  have e : sm (-m.2) (ltr m.1) = sm (-1) (sm m.2 (ltr m.1)) := by rw [sm_sm]; congr 1; grind
  unfold flow negM
  rw [e]
  exact exp_inv (ltr0 _ _)
theorem sch_inv (l : List (Bool × Fp)) : Eq 5 (sch l * sch (l.reverse.map negM)) one := by
  induction l with
  | nil => rw [List.reverse_nil, List.map_nil, sch, one_mul]; exact Eq.refl _ _
  | cons m r ih =>
    rw [List.reverse_cons, List.map_append, sch_app, sch]
    have e : flow m * sch r * (sch (r.reverse.map negM) * sch [negM m]) = flow m * (sch r * sch (r.reverse.map negM)) * sch [negM m] := by simp only [mul_assoc]
    rw [List.map_cons, List.map_nil, e, show sch [negM m] = flow (negM m) from mul_one _]
    refine (Eq.mul (Eq.mul (Eq.refl _ _) ih) (Eq.refl _ _)).trans ?_
    rw [mul_one]
    exact flow_inv m
theorem alt_flow (m : Bool × Fp) : alt (flow m) = flow (negM m) := by
  unfold flow expS negM
  rw [alt_pol, alt_sm, alt_ltr, sm_sm]
  congr 2
  grind
theorem alt_sch (l : List (Bool × Fp)) : alt (sch l) = sch (l.map negM) := by
  induction l with
  | nil => exact alt_one
  | cons m r ih => rw [List.map_cons, sch, sch, alt_mul, ih, alt_flow]
theorem sch_nil (l : List (Bool × Fp)) : sch l [] = 1 := by
  induction l with
  | nil => rfl
  | cons m r ih => rw [sch, mul_nil, ih, flow, expS_nil (ltr0 _ _)]; grind
theorem sch_lie (l : List (Bool × Fp)) : SpE (logS (sch l)) := by
  have key : ∀ l : List (Bool × Fp), SpE (logS (sch l.reverse)) := by
    intro l
    induction l with
    | nil =>
      refine ⟨zero, .zero, ?_⟩
      unfold logS
      have e : sch ([] : List (Bool × Fp)).reverse - one = zero := ext fun w => by rw [sub_at, zero_at]; show one w - one w = 0; grind
      rw [e]
      exact Eq.of (by simp only [logC, pol, zero_mul, zero_sm, add_zero])
    | cons m r ih =>
      rw [List.reverse_cons, sch_app, show sch [m] = flow m from mul_one _]
      exact lie_step (sch_nil _) ih (.sm _ (.ltr _))
  have := key l.reverse
  rwa [List.reverse_reverse] at this
theorem sch_pal (l : List (Bool × Fp)) : Eq 5 (sch (l ++ l.reverse) * alt (sch (l ++ l.reverse))) one := by
  have h := sch_inv (l ++ l.reverse)
  rwa [List.reverse_append, List.reverse_reverse, ← alt_sch] at h
theorem Low.mul_l {m : Nat} {d : Ser} (h : Low m d) (g : Ser) : ∀ w, w.length = m → (d * g) w = d w * g [] := by
  intro w
  induction w generalizing d m with
  | nil => intro _; rw [mul_nil]
  | cons x w ih =>
    intro hw
    simp only [List.length_cons] at hw
    have h0 : d [] = 0 := h [] (by simp; omega)
    have hd : Low (m - 1) (der x d) := fun v hv => h (x :: v) (by simp; omega)
    rw [mul_cons, h0, ih hd (by omega), der_at]; grind
theorem Low.mul_r {m : Nat} {d : Ser} (h : Low m d) (g : Ser) : ∀ w, w.length = m → (g * d) w = g [] * d w := by
  have key : ∀ (w : List Bool) (g : Ser), w.length < m → (g * d) w = 0 := by
    intro w
    induction w with
    | nil => intro g hw; rw [mul_nil, h [] hw]; grind
    | cons x w ih => intro g hw; rw [mul_cons, ih _ (by simp at hw; omega), h _ hw]; grind
  intro w hw
  cases w with
  | nil => rw [mul_nil]
  | cons x w => rw [mul_cons, key _ _ (by simp at hw; omega)]; grind
theorem sgn_even (w : List Bool) : (w.length % 2 = 0 → sgnW w = 1) ∧ (w.length % 2 = 1 → sgnW w = -1) := by
  induction w with
  | nil => exact ⟨fun _ => rfl, fun h => by simp at h⟩
  | cons x w ih =>
    rw [sgnW, List.length_cons]
    exact ⟨fun h => by rw [ih.2 (by omega)]; grind, fun h => by rw [ih.1 (by omega)]⟩
theorem two_zero {x : Fp} (h : x + x = 0) : x = 0 := by
  have e : x = 500000136 * (x + x) := by grind
  rw [h] at e
  rw [e]; grind
/-- Where two such series part first, the length is odd. -/
theorem part_odd {f g : Ser} (hf : Eq 5 (f * alt f) one) (hg : Eq 5 (g * alt g) one) (hf0 : f [] = 1) (hg0 : g [] = 1) {w : List Bool} (hw : w.length ≤ 5) (hl : ∀ v, v.length < w.length → f v = g v) (hne : f w ≠ g w) : w.length % 2 = 1 := by
  rcases Nat.mod_two_eq_zero_or_one w.length with he | ho
  · exfalso
    apply hne
    have hd : Low w.length (f - g) := fun v hv => by rw [sub_at, hl v hv]; grind
    have hd2 : Low w.length (alt (f - g)) := fun v hv => by rw [alt_at, hd v hv]; grind
    have e : f * alt f - g * alt g = (f - g) * alt f + g * alt (f - g) := by
      rw [sub_eq f g, alt_add, alt_sm, add_mul, mul_add, sm_mul, mul_sm]
      exact ext fun v => by simp only [sub_at, add_at, sm_at]; grind
    have h1 : (f * alt f - g * alt g) w = 0 := by rw [sub_at, hf w hw, hg w hw]; grind
    rw [e, add_at, hd.mul_l _ w rfl, hd2.mul_r _ w rfl, alt_nil, hf0, hg0, alt_at, (sgn_even w).1 he, sub_at] at h1
    have h2 := two_zero (x := f w - g w) (by grind)
    grind
  · exact ho
end Ser
end Go.Proofs.Ytodlfmagkjblgaa
