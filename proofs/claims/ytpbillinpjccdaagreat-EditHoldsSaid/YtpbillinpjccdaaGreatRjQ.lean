/- Families of nodes: one is taken out of them, and put back; they are sorted. It speaks of no program. -/
import Derived.Test.YtpbillinpjccdaaGreatReQ
set_option linter.unusedVariables false
set_option linter.unusedSimpArgs false
set_option linter.unusedSectionVars false
namespace Go.R
open Go.J
theorem map_erase {α β : Type} (f : α → β) : ∀ (l : List α) (i : Nat), (l.map f).eraseIdx i = (l.eraseIdx i).map f
  | [], _ => rfl
  | x :: l, 0 => rfl
  | x :: l, i + 1 => by simp [map_erase f l i]
def frest (fs : List Fam) (d : Dot) : List Fam := if mhas (ents fs) d = true then fs.eraseIdx (mpos (ents fs) d) else fs
abbrev curRow (N : Nat) (fs : List Fam) (d : Dot) : En := En.row (underA fs d) (under fs d).length (underC fs d) N 6 ((under fs d).flatMap nc)
theorem fam_pick {N : Nat} {fs : List Fam} {d : Dot} (h : mhas (ents fs) d = true) : (fs.map (Fam.row N)).Perm (curRow N fs d :: (frest fs d).map (Fam.row N)) := by
  have h1 := (mhas_lt h).1
  have h1' : mpos (ents fs) d < fs.length := by simpa using h1
  have h2 : (fs.map (Fam.row N))[mpos (ents fs) d]? = some (curRow N fs d) := by
    rw [List.getElem?_map, List.getElem?_eq_getElem h1']
    simp only [Option.map_some, curRow, underA, under, underC, if_pos h, gx_nat fs _ h1']
  have h3 := perm_pick h2
  rw [frest, if_pos h, ← map_erase]
  exact h3
section
variable {P : Program} {Q : Exit → Act → World → Prop} {w0 : World} {M : List Nat} {N : Fm} {r : Option Nat} {cs : List It} {s : List (Nat × Value)} {h : List En} {ops : Array Oper} {rest : List Oper}
theorem Hold.famOpen {w : World} {T : Nat} (fs : List Fam) (d : Dot) (con : List En) (hw : Hold w0 M (con ++ fs.map (Fam.row T)) w) : Hold w0 M (curRow T fs d :: (con ++ (frest fs d).map (Fam.row T))) w := by
  by_cases hm : mhas (ents fs) d = true
  · exact hw.perm (((fam_pick hm).append_left con).trans List.perm_middle)
  · have e1 : frest fs d = fs := if_neg hm
    rw [e1]
    have h1 := hw.nilrow T 6
    have e2 : curRow T fs d = En.row none 0 0 T 6 [] := by simp [curRow, underA, under, underC, hm]
    rw [e2]
    exact h1
theorem _root_.Go.J.WA.famOpen {T : Nat} (fs : List Fam) (d : Dot) (con : List En) (H : WA P Q r w0 M N cs s (curRow T fs d :: (con ++ (frest fs d).map (Fam.row T)))) : WA P Q r w0 M N cs s (con ++ fs.map (Fam.row T)) := fun a w ha hw => H a w ha (Hold.famOpen fs d con hw)
end
theorem fam_close {N : Nat} (fs : List Fam) (f : Fam) : (Fam.row N f :: (frest fs f.k).map (Fam.row N)).Perm ((fput fs f).map (Fam.row N)) := by
  unfold frest fput
  split
  · rename_i hm
    have h1 := (mhas_lt hm).1
    have h1' : mpos (ents fs) f.k < fs.length := by simpa using h1
    have e : (fs.set (mpos (ents fs) f.k) f).eraseIdx (mpos (ents fs) f.k) = fs.eraseIdx (mpos (ents fs) f.k) := by
      apply List.ext_getElem?
      intro j
      rw [List.getElem?_eraseIdx, List.getElem?_eraseIdx]
      split
      · rw [List.getElem?_set_ne (by omega)]
      · rw [List.getElem?_set_ne (by omega)]
    have h2 : ((fs.set (mpos (ents fs) f.k) f).map (Fam.row N))[mpos (ents fs) f.k]? = some (Fam.row N f) := by
      rw [List.getElem?_map, List.getElem?_set_self (by omega)]
      rfl
    have h3 := perm_pick h2
    rw [map_erase, e] at h3
    exact h3.symm
  · rw [List.map_append, List.map_cons]
    refine .trans ?_ List.perm_middle.symm
    rw [← List.map_append, List.take_append_drop]
theorem fput_len (fs : List Fam) (f : Fam) : (fput fs f).length ≤ fs.length + 1 := by
  unfold fput
  split
  · simp
  · simp; omega
def fsort (f : Fam) : Fam := ⟨f.k, f.A, f.c, isort nfirst f.ns⟩
theorem fsort_ent (f : Fam) : (fsort f).ent = f.ent := by simp [fsort, Fam.ent, (isort_perm nfirst f.ns).length_eq]
theorem fsort_ents (fs : List Fam) : ents (fs.map fsort) = ents fs := by
  unfold ents
  rw [List.map_map]
  exact List.map_congr_left fun f _ => fsort_ent f
theorem fsort_under (fs : List Fam) (d : Dot) : under (fs.map fsort) d = isort nfirst (under fs d) := by
  unfold under
  rw [fsort_ents]
  split
  · rename_i h
    have h1 := (mhas_lt h).1
    have h1' : mpos (ents fs) d < fs.length := by simpa using h1
    rw [gx_map fsort fs h1']
    rfl
  · rfl
theorem Fo.kids {l : List Nd} {fs : List Fam} (h : Fo l fs) (d : Dot) : R.under (fs.map fsort) d = kids l d := by
  rw [fsort_under, h.under]
  rfl
theorem Fo.dd {l : List Nd} {fs : List Fam} (hd : DD l) (h : Fo l fs) {f : Fam} (hf : f ∈ fs) : DD f.ns := by
  rw [h.ns f hf]
  exact hd.filter _
theorem fsort_eq {l : List Nd} {fs : List Fam} (hd : DD l) (h : Fo l fs) {f : Fam} (hf : f ∈ fs) {ns : List Nd} (hp : ns.Perm f.ns) (hs : ns.Pairwise (fun x y => ¬ fcmp y x < 0)) : ns = isort nfirst f.ns := by
  refine isort_unique (h.dd hd hf) hp (hs.imp ?_)
  intro a b hab
  rw [fcmp_neg] at hab
  simpa using hab
/-- The families of which the first ones are sorted. -/
def fpart (fs : List Fam) (k : Nat) : List Fam := (fs.take k).map fsort ++ fs.drop k
theorem fpart_zero (fs : List Fam) : fpart fs 0 = fs := by simp [fpart]
theorem fpart_all (fs : List Fam) : fpart fs fs.length = fs.map fsort := by simp [fpart]
theorem itr_perm (a F : List En) (x : En) (b : List En) : (a ++ (F ++ x :: b)).Perm (x :: (a ++ (F ++ b))) := by
  rw [← List.append_assoc, ← List.append_assoc]
  exact List.perm_middle
theorem fam_at {fs : List Fam} {pre post : List Ent} {x : Ent} (h : ents fs = pre ++ x :: post) : pre.length < fs.length ∧ x = (gx fs (pre.length : Int)).ent := by
  have hl : pre.length < fs.length := by
    have := congrArg List.length h
    simp at this
    omega
  refine ⟨hl, ?_⟩
  have h1 : (ents fs)[pre.length]? = some x := by rw [h]; simp
  rw [List.getElem?_map, List.getElem?_eq_getElem hl] at h1
  rw [gx_nat fs _ hl]
  exact (Option.some.inj h1).symm
theorem Fo.len {l : List Nd} {fs : List Fam} (h : Fo l fs) {f : Fam} (hf : f ∈ fs) : f.ns.length ≤ l.length := by
  rw [h.ns f hf]
  exact List.length_filter_le _ _
theorem Fo.under_len {l : List Nd} {fs : List Fam} (h : Fo l fs) (d : Dot) : (R.under fs d).length ≤ l.length := by
  rw [h.under]
  exact List.length_filter_le _ _
theorem fpart_perm {N : Nat} (fs : List Fam) (k : Nat) (hk : k < fs.length) (en : En) : (en :: (fpart fs k).map (Fam.row N)).Perm (Fam.row N (gx fs (k : Int)) :: en :: ((fs.take k).map fsort ++ fs.drop (k + 1)).map (Fam.row N)) := by
  have e : fpart fs k = (fs.take k).map fsort ++ gx fs (k : Int) :: fs.drop (k + 1) := by rw [fpart, drop_gx fs hk]
  rw [e]
  refine .trans (.cons _ ?_) (.swap _ _ _)
  rw [List.map_append, List.map_cons, List.map_append]
  exact List.perm_middle
theorem fpart_close {N : Nat} (fs : List Fam) (k : Nat) (hk : k < fs.length) (en : En) : (Fam.row N (fsort (gx fs (k : Int))) :: en :: ((fs.take k).map fsort ++ fs.drop (k + 1)).map (Fam.row N)).Perm (en :: (fpart fs (k + 1)).map (Fam.row N)) := by
  have e : fpart fs (k + 1) = (fs.take k).map fsort ++ fsort (gx fs (k : Int)) :: fs.drop (k + 1) := by rw [fpart, take_gx fs hk]; simp
  rw [e]
  refine .trans (.swap _ _ _) (.cons _ ?_)
  rw [List.map_append, List.map_append, List.map_cons]
  exact List.perm_middle.symm
end Go.R
