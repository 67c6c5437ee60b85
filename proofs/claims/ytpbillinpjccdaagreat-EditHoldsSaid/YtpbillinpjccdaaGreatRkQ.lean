/- Plain data and laws: faults, the map of the first places, the first error. It speaks of no program. -/
import Derived.Test.YtpbillinpjccdaaGreatRgQ
import Derived.Test.YtpbillinpjccdaaGreatJgQ
set_option linter.unusedVariables false
set_option linter.unusedSimpArgs false
set_option linter.unusedSectionVars false
namespace Go.R
open Go.J
abbrev Flt := Int × Int
abbrev fc (p : Flt) : List Value := [.int .i64 p.1, .int .i64 p.2]
abbrev SlP (w : World) (A : Option Addr) (l : List Flt) : Prop := SlF w 2 A l.length (l.flatMap fc)
/-- The map of the places of the last k nodes. -/
def atM (l : List Nd) : Nat → List (Dot × Int)
  | 0 => []
  | k + 1 => mset (atM l k) (gx l ((l.length : Int) - 1 - k)).d ((l.length : Int) - 1 - k)
theorem atM_get (l : List Nd) : ∀ (k : Nat), k ≤ l.length → ∀ d, mget (atM l k) d = if fnd (l.drop (l.length - k)) d < 0 then none else some (((l.length - k : Nat) : Int) + fnd (l.drop (l.length - k)) d)
  | 0, _, d => by simp [atM, mget, fnd, idx]
  | k + 1, hk, d => by
    have ih := atM_get l k (by omega) d
    have e0 : (l.length : Int) - 1 - k = ((l.length - (k + 1) : Nat) : Int) := by omega
    have e1 : l.length - (k + 1) + 1 = l.length - k := by omega
    have e2 : l.drop (l.length - (k + 1)) = gx l ((l.length - (k + 1) : Nat) : Int) :: l.drop (l.length - k) := by rw [drop_gx l (by omega), e1]
    have e3 : fnd (l.drop (l.length - (k + 1))) d = if (gx l ((l.length - (k + 1) : Nat) : Int)).d = d then 0 else if fnd (l.drop (l.length - k)) d < 0 then -1 else fnd (l.drop (l.length - k)) d + 1 := by
      rw [e2]
      by_cases h : (gx l ((l.length - (k + 1) : Nat) : Int)).d = d <;> simp [fnd, idx, h]
      rfl
    simp only [atM, mget_mset, ih, e0, e3]
    by_cases h : (gx l ((l.length - (k + 1) : Nat) : Int)).d = d
    · simp [h]
    · simp only [if_neg h]
      by_cases h2 : fnd (l.drop (l.length - k)) d < 0
      · simp [h2]
      · have h3 : ¬ fnd (l.drop (l.length - k)) d + 1 < 0 := by omega
        simp only [if_neg h2, if_neg h3, Option.some.injEq]
        omega
theorem atM_all (l : List Nd) (d : Dot) : mget (atM l l.length) d = if fnd l d < 0 then none else some (fnd l d) := by
  have := atM_get l l.length (Nat.le_refl _) d
  simpa using this
theorem fnd_bd (l : List Nd) (d : Dot) : -1 ≤ fnd l d ∧ fnd l d < l.length := idx_bd _ l
theorem flawC (l : List Nd) (i : Nat) : flawN l i = if nvalid (gx l i) = false then 1 else if 0 < i ∧ 0 ≤ dcmp (gx l ((i : Int) - 1)).d (gx l i).d then 2 else if droot (gx l i).p = true then 0 else if fnd l (gx l i).p < 0 then 3 else if (gx l i).t ≤ (gx l (fnd l (gx l i).p)).t then 4 else 0 := by
  unfold flawN
  have h := @dcmp_neg (gx l ((i : Int) - 1)).d (gx l i).d
  have h2 : (0 < i ∧ ¬ dlt (gx l ((i : Int) - 1)).d (gx l i).d) ↔ (0 < i ∧ 0 ≤ dcmp (gx l ((i : Int) - 1)).d (gx l i).d) := by
    rw [← h]
    constructor
    · rintro ⟨h1, h2⟩; exact ⟨h1, by omega⟩
    · rintro ⟨h1, h2⟩; exact ⟨h1, by omega⟩
  split
  · rfl
  · by_cases h3 : 0 < i ∧ 0 ≤ dcmp (gx l ((i : Int) - 1)).d (gx l i).d
    · rw [if_pos h3, if_pos (h2.2 h3)]
    · rw [if_neg h3, if_neg (fun e => h3 (h2.1 e))]
theorem orderR_len (l : List Nd) : (orderR l).1.length ≤ l.length := by
  unfold orderR
  split
  · rename_i h
    exact order_len h
  · simp
theorem slN_cut {w : World} {A : Option Addr} {l : List Nd} {c : Nat} (h : SlN w A l) {i j : Int} (hij : i ≤ j) (hj : j ≤ l.length) (hc : l.length ≤ c) : SlF w 6 (cutA A c i.toNat 6) (j.toNat - i.toNat) (((l.drop i.toNat).take (j.toNat - i.toNat)).flatMap nc) := by
  have h1 := SlF.cut (cap := c) h (l := i.toNat) (m := j.toNat) (by omega) (by omega) hc
  rw [flat_drop (enc := nc) (k := 6) (fun _ => rfl), flat_take (enc := nc) (k := 6) (fun _ => rfl)] at h1
  exact h1
/-- The first error of several ones. -/
def firstE : List Int → Int
  | [] => 0
  | e :: l => if e = 0 then firstE l else e
def whenE (b : Bool) (e : Int) : Int := if b then e else 0
theorem firstE_two (a b : Int) : firstE [a, b] = if a = 0 then b else a := by
  simp only [firstE]
  split
  · split <;> simp_all
  · rfl
def visR (l : List Nd) : List Nd × Int := if storeOk l = true then (visN l, 0) else ([], 2)
def runesR (l : List Nd) : List Int × Int := if storeOk l = true then (runesOf l, 0) else ([], 2)
theorem visR_eq (l : List Nd) : visR l = (alive (orderR l).1, (orderR l).2) := by
  unfold visR orderR
  split <;> rfl
theorem visR_len (l : List Nd) : (visR l).1.length ≤ l.length := by
  unfold visR
  split
  · rename_i h
    exact visN_len h
  · simp
theorem runesR_eq (l : List Nd) : runesR l = ((visR l).1.map Nd.x, (visR l).2) := by
  unfold visR runesR runesOf
  split <;> rfl
theorem alive_eq (l : List Nd) : l.filter (fun n => !decide (n.x = 0)) = alive l := by
  unfold alive
  congr 1
  funext n
  by_cases h : n.x = 0 <;> simp [h]
/-- 'index.Left', 'index.Dots'. -/
def leftR (l : List Nd) (i : Int) : Dot × Int :=
  if (visR l).2 ≠ 0 then (rt, (visR l).2) else if i < 0 then (rt, 3) else if ((visR l).1.length : Int) < i then (rt, 3) else if i = 0 then (rt, 0) else ((gx (visR l).1 (i - 1)).d, 0)
def dotsR (l : List Nd) (i j : Int) : List Dot × Int :=
  if (visR l).2 ≠ 0 then ([], (visR l).2) else if i < 0 then ([], 3) else if j < i then ([], 3) else if ((visR l).1.length : Int) < j then ([], 3) else ((((visR l).1.drop i.toNat).take (j.toNat - i.toNat)).map Nd.d, 0)
end Go.R
