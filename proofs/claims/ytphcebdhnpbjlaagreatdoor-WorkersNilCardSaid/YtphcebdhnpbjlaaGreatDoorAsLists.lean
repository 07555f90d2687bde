/-
  AS: two lists that go side by side; rows of cells.
-/
import Derived.Test.YtphcebdhnpbjlaaGreatDoorAsHeap
set_option linter.unusedSectionVars false
set_option linter.unusedSimpArgs false
set_option linter.unusedVariables false
namespace Go.As
variable [Gh]

def All2 {α β : Type} (R : α → β → Prop) : List α → List β → Prop
  | [], ys => ys = []
  | x :: xs, ys => ∃ y r, ys = y :: r ∧ R x y ∧ All2 R xs r
namespace All2
variable {α β γ : Type} {R : α → β → Prop}
theorem nil : All2 R [] [] := rfl
theorem cons {x : α} {y : β} {xs : List α} {ys : List β} (h : R x y) (k : All2 R xs ys) : All2 R (x :: xs) (y :: ys) := ⟨y, ys, rfl, h, k⟩
theorem cons_iff {x : α} {y : β} {xs : List α} {ys : List β} : All2 R (x :: xs) (y :: ys) ↔ R x y ∧ All2 R xs ys :=
  ⟨fun ⟨_, _, e, h, k⟩ => by cases e; exact ⟨h, k⟩, fun ⟨h, k⟩ => cons h k⟩
theorem len : ∀ {xs : List α} {ys : List β}, All2 R xs ys → ys.length = xs.length
  | [], _, h => by cases h; rfl
  | _ :: _, _, ⟨_, _, e, _, k⟩ => by subst e; simp [len k]
theorem get : ∀ {xs : List α} {ys : List β} {i : Nat} {x : α}, All2 R xs ys → xs[i]? = some x → ∃ y, ys[i]? = some y ∧ R x y
  | [], _, _, _, _, e => by simp at e
  | _ :: _, _, 0, _, ⟨y, r, e, h, _⟩, e1 => by subst e; simp at e1; subst e1; exact ⟨y, rfl, h⟩
  | _ :: _, _, i + 1, _, ⟨_, _, e, _, k⟩, e1 => by subst e; simpa using get (i := i) k (by simpa using e1)
theorem set : ∀ {xs : List α} {ys : List β} {i : Nat} {x : α} {y : β}, All2 R xs ys → R x y → All2 R (xs.set i x) (ys.set i y)
  | [], _, _, _, _, h, _ => by cases h; rfl
  | _ :: _, _, 0, _, _, ⟨_, r, e, _, k⟩, hr => by subst e; exact cons hr k
  | _ :: _, _, i + 1, _, _, ⟨_, _, e, h, k⟩, hr => by subst e; exact cons h (set k hr)
theorem app : ∀ {xs xs' : List α} {ys ys' : List β}, All2 R xs ys → All2 R xs' ys' → All2 R (xs ++ xs') (ys ++ ys')
  | [], _, _, _, h, k => by cases h; exact k
  | _ :: _, _, _, _, ⟨_, _, e, h, k⟩, k' => by subst e; exact cons h (app k k')
theorem take : ∀ {xs : List α} {ys : List β} (n : Nat), All2 R xs ys → All2 R (xs.take n) (ys.take n)
  | _, _, 0, _ => by simp; rfl
  | [], _, _ + 1, h => by cases h; rfl
  | _ :: _, _, n + 1, ⟨_, _, e, h, k⟩ => by subst e; exact cons h (take n k)
theorem drop : ∀ {xs : List α} {ys : List β} (n : Nat), All2 R xs ys → All2 R (xs.drop n) (ys.drop n)
  | _, _, 0, h => by simpa using h
  | [], _, _ + 1, h => by cases h; rfl
  | _ :: _, _, n + 1, ⟨_, _, e, _, k⟩ => by subst e; exact drop n k
theorem rep {x : α} {y : β} (h : R x y) : ∀ n : Nat, All2 R (List.replicate n x) (List.replicate n y)
  | 0 => rfl
  | n + 1 => cons h (rep h n)
theorem imp {S : α → β → Prop} (f : ∀ x y, R x y → S x y) : ∀ {xs : List α} {ys : List β}, All2 R xs ys → All2 S xs ys
  | [], _, h => h
  | _ :: _, _, ⟨y, r, e, h, k⟩ => ⟨y, r, e, f _ _ h, imp f k⟩
theorem imp' {S : α → β → Prop} : ∀ {xs : List α} {ys : List β}, (∀ x ∈ xs, ∀ y, R x y → S x y) → All2 R xs ys → All2 S xs ys
  | [], _, _, h => h
  | x :: _, _, f, ⟨y, r, e, h, k⟩ => ⟨y, r, e, f x (by simp) y h, imp' (fun z hz => f z (by simp [hz])) k⟩
theorem map_left {f : γ → α} : ∀ {xs : List γ} {ys : List β}, All2 (fun x y => R (f x) y) xs ys ↔ All2 R (xs.map f) ys
  | [], _ => Iff.rfl
  | _ :: _, _ => ⟨fun ⟨y, r, e, h, k⟩ => ⟨y, r, e, h, map_left.1 k⟩, fun ⟨y, r, e, h, k⟩ => ⟨y, r, e, h, map_left.2 k⟩⟩
theorem erase : ∀ {xs : List α} {ys : List β} (i : Nat), All2 R xs ys → All2 R (xs.eraseIdx i) (ys.eraseIdx i)
  | [], _, _, h => by cases h; rfl
  | _ :: _, _, 0, ⟨_, _, e, _, k⟩ => by subst e; exact k
  | _ :: _, _, i + 1, ⟨_, _, e, h, k⟩ => by subst e; exact cons h (erase i k)
theorem app_inv : ∀ {xs xs' : List α} {zs : List β}, All2 R (xs ++ xs') zs → ∃ ys ys', zs = ys ++ ys' ∧ All2 R xs ys ∧ All2 R xs' ys'
  | [], _, zs, h => ⟨[], zs, rfl, rfl, h⟩
  | _ :: _, _, _, ⟨y, _, e, h, k⟩ => by
    subst e
    obtain ⟨ys, ys', e, h1, h2⟩ := app_inv k
    exact ⟨y :: ys, ys', by simp [e], cons h h1, h2⟩
end All2

theorem RELs_iff {C : IV} {m : Bool} : ∀ {l : List D} {wss : List (List Value)}, RELs C l m wss ↔ All2 (fun d ws => REL C d m ws) l wss
  | [], _ => by simp [RELs, All2]
  | d :: l, wss => by simp only [RELs, All2]; simp only [RELs_iff (l := l)]
theorem VRELs_iff {X : Cx} {m : Bool} : ∀ {l : List V} {wss : List (List Value)}, VRELs X l m wss ↔ All2 (fun d ws => VREL X d m ws) l wss
  | [], _ => by simp [VRELs, All2]
  | d :: l, wss => by simp only [VRELs, All2]; simp only [VRELs_iff (l := l)]
theorem ENT_iff {X : Cx} : ∀ {l : List (D × V)} {ms : List MapEntry}, ENT X l ms ↔ All2 (fun e m => REL X.C e.1 true [m.key] ∧ VREL X e.2 true [m.val]) l ms
  | [], _ => by simp [ENT, All2]
  | d :: l, ms => by simp only [ENT, All2]; simp only [ENT_iff (l := l), and_assoc]

/-! ### rows of equal length -/
def Even (s : Nat) (wss : List (List Value)) : Prop := ∀ ws ∈ wss, ws.length = s
theorem Even.len {s : Nat} {wss : List (List Value)} (h : Even s wss) : wss.flatten.length = wss.length * s := by
  induction wss with
  | nil => simp
  | cons a l ih =>
    rw [List.flatten_cons, List.length_append, h a (by simp), ih (fun x hx => h x (by simp [hx])), List.length_cons, Nat.add_mul, Nat.one_mul, Nat.add_comm]
theorem Even.get {s : Nat} : ∀ {wss : List (List Value)} {i j : Nat} {ws : List Value}, Even s wss → wss[i]? = some ws → j < s → wss.flatten[i * s + j]? = ws[j]?
  | [], _, _, _, _, e, _ => by simp at e
  | a :: l, 0, j, ws, h, e, hj => by
    simp at e; subst e
    rw [List.flatten_cons, Nat.zero_mul, Nat.zero_add, List.getElem?_append_left (by rw [h a (by simp)]; exact hj)]
  | a :: l, i + 1, j, ws, h, e, hj => by
    have ha := h a (by simp)
    rw [List.flatten_cons, List.getElem?_append_right (by rw [ha, Nat.add_mul]; omega), ha]
    have : (i + 1) * s + j - s = i * s + j := by rw [Nat.add_mul]; omega
    rw [this]
    exact Even.get (fun x hx => h x (by simp [hx])) (by simpa using e) hj
theorem Even.take {s : Nat} {wss : List (List Value)} (h : Even s wss) (n : Nat) : Even s (wss.take n) := fun x hx => h x (List.mem_of_mem_take hx)
theorem Even.drop {s : Nat} {wss : List (List Value)} (h : Even s wss) (n : Nat) : Even s (wss.drop n) := fun x hx => h x (List.mem_of_mem_drop hx)
theorem Even.app {s : Nat} {a b : List (List Value)} (h : Even s a) (k : Even s b) : Even s (a ++ b) := fun x hx => (List.mem_append.1 hx).elim (h x) (k x)
theorem Even.set {s : Nat} {a : List (List Value)} (h : Even s a) {i : Nat} {ws : List Value} (k : ws.length = s) : Even s (a.set i ws) := fun x hx => by
  rcases List.mem_or_eq_of_mem_set hx with hx | rfl
  · exact h x hx
  · exact k
theorem Even.rep {s n : Nat} {ws : List Value} (k : ws.length = s) : Even s (List.replicate n ws) := fun x hx => by rw [List.eq_of_mem_replicate hx]; exact k
theorem Even.flatten_take {s : Nat} : ∀ {wss : List (List Value)} {n : Nat}, Even s wss → (wss.take n).flatten = wss.flatten.take (n * s)
  | [], n, _ => by simp
  | a :: l, 0, _ => by simp
  | a :: l, n + 1, h => by
    have ha := h a (by simp)
    have e1 : (n + 1) * s - s = n * s := by rw [Nat.add_mul, Nat.one_mul, Nat.add_sub_cancel]
    have e2 : a.take ((n + 1) * s) = a := List.take_of_length_le (by rw [ha, Nat.add_mul]; omega)
    rw [List.take_succ_cons, List.flatten_cons, List.flatten_cons, Even.flatten_take (fun x hx => h x (by simp [hx])), List.take_append, ha, e1, e2]
theorem Even.flatten_drop {s : Nat} : ∀ {wss : List (List Value)} {n : Nat}, Even s wss → (wss.drop n).flatten = wss.flatten.drop (n * s)
  | [], n, _ => by simp
  | a :: l, 0, _ => by simp
  | a :: l, n + 1, h => by
    have ha := h a (by simp)
    have e1 : (n + 1) * s - s = n * s := by rw [Nat.add_mul, Nat.one_mul, Nat.add_sub_cancel]
    have e2 : a.drop ((n + 1) * s) = [] := List.drop_eq_nil_of_le (by rw [ha, Nat.add_mul]; omega)
    rw [List.drop_succ_cons, List.flatten_cons, Even.flatten_drop (fun x hx => h x (by simp [hx])), List.drop_append, ha, e1, e2, List.nil_append]

theorem Addr.add_add (a : Addr) (i j : Nat) (h : a.spot = none) : (a.add i).add j = a.add (i + j) := by
  unfold Addr.add
  cases a with
  | mk b o s =>
    simp only at h; subst h
    by_cases hi : i = 0 <;> by_cases hj : j = 0 <;> simp [hi, hj]
    omega
theorem Addr.add_spot (a : Addr) (i : Nat) (h : a.spot = none) : (a.add i).spot = none := by
  unfold Addr.add; split <;> simp_all
theorem Addr.add_block (a : Addr) (i : Nat) : (a.add i).block = a.block := by unfold Addr.add; split <;> rfl
theorem Addr.add_inj {a : Addr} {i j : Nat} (h : a.spot = none) (e : a.add i = a.add j) : i = j := by
  unfold Addr.add at e
  cases a with
  | mk b o s =>
    simp only at h; subst h
    by_cases hi : i = 0 <;> by_cases hj : j = 0 <;> simp [hi, hj] at e <;> omega
@[simp] theorem Addr.add_zero (a : Addr) : a.add 0 = a := by simp [Addr.add]

theorem cellsAt.drop {C : IV} {a : Addr} (ha : a.spot = none) {vs : List Value} (h : cellsAt C a vs) (n : Nat) : cellsAt C (a.add n) (vs.drop n) := fun j v e => by
  rw [Addr.add_add a n j ha]; exact h _ v (by simpa using e)
theorem cellsAt.take {C : IV} {a : Addr} {vs : List Value} (h : cellsAt C a vs) (n : Nat) : cellsAt C a (vs.take n) := fun j v e => h j v (by
  rw [List.getElem?_take] at e; split at e
  · exact e
  · cases e)
theorem cellsAt.row {C : IV} {a : Addr} (ha : a.spot = none) {s : Nat} {wss : List (List Value)} (hs : Even s wss) (h : cellsAt C a wss.flatten) {i : Nat} {ws : List Value} (e : wss[i]? = some ws) : cellsAt C (a.add (i * s)) ws := fun j v ev => by
  have hl : ws.length = s := hs ws (List.mem_of_getElem? e)
  have hj : j < s := by rw [← hl]; exact (List.getElem?_eq_some_iff.1 ev).1
  rw [Addr.add_add a _ j ha]
  exact h _ v (by rw [hs.get e hj]; exact ev)
theorem cellsAt.nil {C : IV} {a : Addr} : cellsAt C a [] := fun j v e => by simp at e
end Go.As
