/- The edit that writes a long run of one rune into nothing, and the edit that takes it out again. -/
import Derived.Test.YtpbillinpjccdaaGreatRm
set_option linter.unusedVariables false
set_option linter.unusedSimpArgs false
set_option linter.unusedSectionVars false
namespace Go.R
open Go.J

def longC (n : Nat) (r : Int) : List Nd := chainF ⟨1, 1⟩ rt 1 (List.replicate n r)
def longN (r : Int) (i : Nat) : Nd := ⟨⟨1, (i : Int) + 1⟩, if i = 0 then rt else ⟨1, (i : Int)⟩, (i : Int) + 1, r⟩
theorem longC_len (n : Nat) (r : Int) : (longC n r).length = n := by simp [longC, chainF_len]
theorem longC_gx {n : Nat} {r : Int} {i : Nat} (h : i < n) : gx (longC n r) (i : Int) = longN r i := by
  unfold longC
  rw [chainF_gx (by simpa using h)]
  unfold chainN longN
  have e : gx (List.replicate n r) (i : Int) = r := by rw [gx_nat _ _ (by simpa using h)]; simp
  rw [e]
  by_cases h0 : i = 0
  · subst h0; rfl
  · rw [if_neg h0, if_neg h0]
    have e1 : (1 : Int) + (i : Int) = (i : Int) + 1 := Int.add_comm _ _
    have e2 : (1 : Int) + (i : Int) - 1 = (i : Int) := by omega
    rw [e2, e1]
theorem rvalid_ne {r : Int} (h : rvalid r = true) : r ≠ 0 := by
  intro e
  subst e
  exact absurd h (by decide)
theorem long_ed {n : Nat} {r : Int} (hr : rvalid r = true) (hn : n ≤ 20000) : Ed [] [] rt ⟨1, 1⟩ (List.replicate n r) :=
  ⟨by decide, by decide, by simp; omega, by simp [maxTime]; omega, fun x hx => by rw [List.eq_of_mem_replicate hx]; exact hr, fun n hn => absurd hn (by simp), .inl rfl⟩
theorem long_delta (n : Nat) (r : Int) : deltaF [] [] rt ⟨1, 1⟩ (List.replicate n r) = longC n r := jn_nil_l (chainF_sd _ _ _ _)
theorem long_next (n : Nat) (r : Int) : nextF [] [] rt ⟨1, 1⟩ (List.replicate n r) = longC n r := by
  unfold nextF
  rw [long_delta]
  exact jn_nil_l (chainF_sd _ _ _ _)
theorem long_well {n : Nat} {r : Int} (hr : rvalid r = true) (hn : n ≤ 20000) : well (longC n r) = true := by
  have := (long_ed hr hn).next_well
  rwa [long_next] at this
theorem long_order {n : Nat} {r : Int} (hr : rvalid r = true) (hn : n ≤ 20000) : order (longC n r) = longC n r := by
  have := (long_ed hr hn).order
  rw [long_next, if_pos rfl] at this
  rw [this]
  show longC n r ++ (order []).flatMap _ = longC n r
  have e : order [] = [] := rfl
  rw [e]
  simp
theorem longC_x {n : Nat} {r : Int} : ∀ m ∈ longC n r, m.x = r := fun m hm => by
  obtain ⟨i, hi, rfl⟩ := chainF_mem.1 hm
  show gx (List.replicate n r) (i : Int) = r
  rw [gx_nat _ _ hi]
  simp
theorem long_vis {n : Nat} {r : Int} (hr : rvalid r = true) (hn : n ≤ 20000) : visN (longC n r) = longC n r := by
  unfold visN alive
  rw [long_order hr hn]
  refine List.filter_eq_self.2 fun m hm => ?_
  rw [longC_x m hm]
  simpa using rvalid_ne hr
theorem long_span {n : Nat} {r : Int} (hr : rvalid r = true) (hn : n ≤ 20000) : spanR (longC n r) 0 n = 0 := by
  rw [spanR_cases _ _ _ (long_well hr hn), long_vis hr hn, longC_len]
  exact if_pos (by omega)
theorem long_cut {n : Nat} {r : Int} (hr : rvalid r = true) (hn : n ≤ 20000) : cutK (longC n r) 0 n = (longC n r).map Nd.d := by
  unfold cutK
  rw [long_vis hr hn]
  have := longC_len n r
  simp [List.take_of_length_le, this]
theorem long_gone {n : Nat} {r : Int} (hr : rvalid r = true) (hn : n ≤ 20000) : goneF (longC n r) (cutK (longC n r) 0 n) = (longC n r).map kill := by
  rw [long_cut hr hn]
  unfold goneF
  congr 1
  refine List.filter_eq_self.2 fun m hm => ?_
  exact decide_eq_true (List.mem_map_of_mem hm)
theorem long_delete {n : Nat} {r : Int} (hr : rvalid r = true) (hn : n ≤ 20000) : deleteR (longC n r) 0 n = if 10000 < n then ([], 5) else ((longC n r).map kill, 0) := by
  unfold deleteR
  rw [if_neg (by rw [long_span hr hn]; simp), long_gone hr hn]
  by_cases h : 10000 < n
  · rw [if_pos h, if_pos (by omega)]
  · rw [if_neg h, if_neg (by omega)]
theorem long_insert {n : Nat} {r : Int} (hr : rvalid r = true) (hn : n ≤ 20000) : replaceR [] ⟨1, 1⟩ 0 0 (List.replicate n r) = if 10000 < n then ([], 5) else (longC n r, 0) := by
  unfold replaceR
  have e1 : spanR [] 0 0 = 0 := by decide
  rw [if_neg (by decide), e1, if_neg (by simp)]
  by_cases h : 10000 < n
  · rw [if_pos h, if_pos (by simp; omega)]
  · have e2 : ((List.replicate n r).any fun x => !rvalid x) = false := by
      rw [List.any_eq_false]
      intro x hx
      rw [List.eq_of_mem_replicate hx]
      simp [hr]
    have e3 : busy [] ⟨1, 1⟩ (List.replicate n r) = false := by simp [busy]
    have e4 : maxTime [] = 0 := rfl
    have e5 : cutK [] 0 0 = [] := rfl
    have e6 : parR [] 0 = rt := rfl
    rw [if_neg h, if_neg (by simp; omega), e2, if_neg (by simp), e4, if_neg (by simp; omega), e3, if_neg (by simp), e5, e6, long_delta]
theorem gx_set {α : Type} [Inhabited α] {l : List α} {k : Nat} (hk : k < l.length) (y : α) (j : Nat) : gx (l.set k y) (j : Int) = if j = k then y else gx l (j : Int) := by
  unfold gx
  simp only [Int.toNat_natCast, List.getD_eq_getElem?_getD]
  by_cases h : j = k
  · subst h
    rw [if_pos rfl, List.getElem?_set_self hk]
    rfl
  · rw [if_neg h, List.getElem?_set_ne (fun e => h e.symm)]
theorem set_upto {α : Type} [Inhabited α] {l : List α} {k : Nat} {f : Nat → α} (h : ∀ j : Nat, j < k → gx l (j : Int) = f j) (hk : k < l.length) : ∀ j : Nat, j < k + 1 → gx (l.set k (f k)) (j : Int) = f j := fun j hj => by
  rw [gx_set hk]
  by_cases e : j = k
  · rw [if_pos e, e]
  · rw [if_neg e]
    exact h j (by omega)
theorem rep_eq {m : Nat} {r : Int} {l : List Int} (hl : l.length = m) (h : ∀ j : Nat, j < m → gx l (j : Int) = r) : l = List.replicate m r :=
  list_ext_gx (by simpa using hl) fun j hj => by
    rw [h j (by omega), gx_nat _ _ (by simp; omega)]
    simp
theorem long_eq {m : Nat} {r : Int} {l : List Nd} (hl : l.length = m) (h : ∀ j : Nat, j < m → gx l (j : Int) = longN r j) : l = longC m r :=
  list_ext_gx (by rw [longC_len]; exact hl) fun j hj => by rw [h j (by omega), longC_gx (by omega)]
theorem long_rn {m k : Nat} {r : Int} {l : List Nd} (hl : l.length = m) (h2 : ∀ j : Nat, j < k → gx l (j : Int) = longN r j) (h3 : m ≤ 10000 → l = longC m r) (hk : k < m) :
    (l.set k (longN r k)).length = m ∧ (∀ j : Nat, j < k + 1 → gx (l.set k (longN r k)) (j : Int) = longN r j) ∧ (m ≤ 10000 → l.set k (longN r k) = longC m r) := by
  have hk' : k < l.length := by omega
  refine ⟨by rw [List.length_set]; exact hl, set_upto (f := longN r) h2 hk', fun hm => ?_⟩
  refine list_ext_gx (by rw [List.length_set, longC_len]; exact hl) fun j hj => ?_
  rw [List.length_set] at hj
  rw [gx_set hk', longC_gx (by omega)]
  by_cases e : j = k
  · rw [if_pos e, e]
  · rw [if_neg e, h3 hm, longC_gx (by omega)]
theorem nc_long_pos {r : Int} {i : Nat} (h : ¬ i = 0) : [Value.int .i64 1, .int .i64 ((i : Int) + 1), .int .i64 1, .int .i64 (i : Int), .int .i64 ((i : Int) + 1), .int .i32 r] = nc (longN r i) := by
  unfold longN
  rw [if_neg h]
theorem nc_long_zero {r : Int} {i : Nat} (h : i = 0) : [Value.int .i64 1, .int .i64 ((i : Int) + 1), .int .i64 0, .int .i64 0, .int .i64 ((i : Int) + 1), .int .i32 r] = nc (longN r i) := by
  unfold longN
  rw [if_pos h]
  rfl
theorem put_set (l : List Nd) (k : Nat) (y : Nd) (hk : k < l.length) : putL (l.flatMap nc) (k * 6) (nc y) = (l.set k y).flatMap nc := putL_field (enc := nc) (k := 6) (fun _ => rfl) l k 0 (nc y) y hk (Nat.le_refl _) rfl
theorem put_setR (l : List Int) (k : Nat) (y : Int) (hk : k < l.length) : putL (l.flatMap rc) (k * 1) [.int .i32 y] = (l.set k y).flatMap rc := putL_field (enc := rc) (k := 1) (fun _ => rfl) l k 0 [.int .i32 y] y hk (Nat.le_refl _) rfl
theorem long_kill {m : Nat} {r : Int} {j : Nat} (h : j < m) : (gx ((longC m r).map kill) (j : Int)).d = (gx (longC m r) (j : Int)).d ∧ (gx ((longC m r).map kill) (j : Int)).x = 0 := by
  have hl := longC_len m r
  rw [gx_nat _ _ (by simpa [hl] using h), gx_nat _ _ (by omega)]
  simp [kill]
end Go.R
