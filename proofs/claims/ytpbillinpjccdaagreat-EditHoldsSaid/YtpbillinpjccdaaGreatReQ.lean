/- Plain laws: the order of a tree. It speaks of no program. -/
import Derived.Test.YtpbillinpjccdaaGreatRdQ
import Derived.Test.YtpbillinpjccdaaGreatSoQ
set_option linter.unusedVariables false
set_option linter.unusedSimpArgs false
set_option linter.unusedSectionVars false
namespace Go.R
open Go.J
def rt : Dot := ⟨0, 0⟩
/-- The order, from a list of nodes that are to be visited: at most so many steps. -/
def ordF (l : List Nd) : Nat → List Nd → List Nd
  | 0, _ => []
  | _ + 1, [] => []
  | f + 1, n :: st => n :: ordF l f (kids l n.d ++ st)
/-- The order of the tree of a list of nodes. -/
def order (l : List Nd) : List Nd := ordF l l.length (kids l rt)
theorem nodup_len {α : Type} [DecidableEq α] : ∀ {a b : List α}, a.Nodup → (∀ x ∈ a, x ∈ b) → a.length ≤ b.length
  | [], _, _, _ => Nat.zero_le _
  | x :: a, b, hn, hs => by
    obtain ⟨h1, h2⟩ := List.nodup_cons.1 hn
    have hx := hs x (List.mem_cons_self ..)
    have ih := nodup_len (b := b.erase x) h2 fun y hy => (List.mem_erase_of_ne (fun e : y = x => h1 (by rw [← e]; exact hy))).2 (hs y (List.mem_cons_of_mem _ hy))
    rw [List.length_erase_of_mem hx] at ih
    have : 0 < b.length := List.length_pos_of_mem hx
    simp only [List.length_cons]
    omega
theorem DD.nodup {l : List Nd} (h : DD l) : l.Nodup := (List.pairwise_map.1 h).imp fun {a b} hab e => hab (by rw [e])
/-- Between two steps: these have been visited, those are to be visited next. -/
structure Visit (l out st : List Nd) : Prop where
  nd : (out ++ st).Nodup
  mem : ∀ n ∈ out ++ st, n ∈ l
  par : ∀ n ∈ out ++ st, n.p = rt ∨ n.p ∈ out.map Nd.d
  eq : out ++ ordF l (l.length - out.length) st = order l
theorem kids_nodup {l : List Nd} (h : DD l) (d : Dot) : (kids l d).Nodup := (isort_perm nfirst _).nodup_iff.2 (List.Nodup.sublist List.filter_sublist h.nodup)
theorem Visit.start {l : List Nd} (h : DD l) : Visit l [] (kids l rt) :=
  ⟨by simpa using kids_nodup h rt, fun n hn => (kids_mem.1 (by simpa using hn)).1, fun n hn => .inl (kids_mem.1 (by simpa using hn)).2, rfl⟩
theorem Visit.len {l out st : List Nd} (h : Visit l out st) : out.length + st.length ≤ l.length := by
  have := nodup_len h.nd h.mem
  simpa using this
theorem Visit.step {l out st : List Nd} {n : Nd} (hd : DD l) (hr : ∀ n ∈ l, n.d ≠ rt) (h : Visit l out (n :: st)) : Visit l (out ++ [n]) (kids l n.d ++ st) := by
  have hn : n ∈ l := h.mem n (by simp)
  have hnout : n ∉ out := fun ho => by
    have := (List.nodup_append.1 h.nd).2.2 n ho n (by simp)
    exact this rfl
  have hfresh : ∀ m ∈ kids l n.d, m ∉ out ++ n :: st := fun m hm hmem => by
    have hp := (kids_mem.1 hm).2
    rcases h.par m hmem with h1 | h1
    · exact hr n hn (hp.symm.trans h1)
    · rw [hp] at h1
      obtain ⟨o, ho, e⟩ := List.mem_map.1 h1
      have : o = n := hd.inj (h.mem o (List.mem_append_left _ ho)) hn e
      exact hnout (this ▸ ho)
  have hl := h.len
  refine ⟨?_, ?_, ?_, ?_⟩
  · have hp : (out ++ [n] ++ (kids l n.d ++ st)).Perm (kids l n.d ++ (out ++ n :: st)) := by
      have e1 : out ++ [n] ++ (kids l n.d ++ st) = (out ++ [n]) ++ (kids l n.d ++ st) := rfl
      have e2 : out ++ n :: st = (out ++ [n]) ++ st := by simp
      rw [e2, ← List.append_assoc, ← List.append_assoc]
      exact List.Perm.append_right _ List.perm_append_comm
    rw [hp.nodup_iff]
    exact List.nodup_append.2 ⟨kids_nodup hd _, h.nd, fun a ha b hb e => hfresh a ha (e ▸ hb)⟩
  · intro m hm
    simp only [List.mem_append, List.mem_singleton] at hm
    rcases hm with (hm | rfl) | hm | hm
    · exact h.mem m (by simp [hm])
    · exact hn
    · exact (kids_mem.1 hm).1
    · exact h.mem m (by simp [hm])
  · intro m hm
    simp only [List.mem_append, List.mem_singleton] at hm
    simp only [List.map_append, List.mem_append, List.map_cons, List.map_nil, List.mem_singleton]
    rcases hm with (hm | rfl) | hm | hm
    · exact (h.par m (by simp [hm])).imp id .inl
    · exact (h.par m (by simp)).imp id .inl
    · exact .inr (.inr (kids_mem.1 hm).2)
    · exact (h.par m (by simp [hm])).imp id .inl
  · rw [← h.eq]
    simp only [List.length_append, List.length_cons, List.length_nil] at hl ⊢
    obtain ⟨f, hf⟩ : ∃ f, l.length - out.length = f + 1 := ⟨l.length - out.length - 1, by omega⟩
    have hf2 : l.length - (out.length + (0 + 1)) = f := by omega
    rw [hf, hf2]
    simp [ordF]
theorem Visit.done {l out : List Nd} (h : Visit l out []) : out = order l := by
  have := h.eq
  cases hf : l.length - out.length with
  | zero => rw [hf] at this; simpa [ordF] using this
  | succ f => rw [hf] at this; simpa [ordF] using this
theorem nvalid_d {n : Nd} (h : nvalid n = true) : n.d ≠ rt := fun e => by
  simp only [nvalid, decide_eq_true_eq, dvalid] at h
  have := h.1.1
  rw [e] at this
  simp [rt] at this
theorem storeOk_all {l : List Nd} (h : storeOk l = true) : ∀ n ∈ l, nvalid n = true := by
  simp only [storeOk, Bool.and_eq_true, List.all_eq_true] at h
  exact h.1
theorem storeOk_dd {l : List Nd} (h : storeOk l = true) : DD l := .of_sorted (storeOk_sorted h)
theorem storeOk_rt {l : List Nd} (h : storeOk l = true) : ∀ n ∈ l, n.d ≠ rt := fun n hn => nvalid_d (storeOk_all h n hn)
/-! ### what lies in memory -/
def underA (fs : List Fam) (d : Dot) : Option Addr := if mhas (ents fs) d = true then (gx fs (mpos (ents fs) d : Int)).A else none
def underC (fs : List Fam) (d : Dot) : Nat := if mhas (ents fs) d = true then (gx fs (mpos (ents fs) d : Int)).c else 0
theorem under_val (fs : List Fam) (d : Dot) : (if mhas (ents fs) d = true then Value.slice (gx (ents fs) (mpos (ents fs) d : Int)).A (gx (ents fs) (mpos (ents fs) d : Int)).n (gx (ents fs) (mpos (ents fs) d : Int)).c else .slice none 0 0) = .slice (underA fs d) (under fs d).length (underC fs d) := by
  unfold underA underC under
  split
  · rename_i h
    have h1 := (mhas_lt h).1
    have h1' : mpos (ents fs) d < fs.length := by simpa using h1
    rw [gx_map Fam.ent fs h1']
    rfl
  · rfl
theorem _root_.Go.J.Hold.under {w0 w : World} {M : List Nat} {h : List En} {N : Nat} {fs : List Fam} (hw : Hold w0 M h w) (hf : ∀ f ∈ fs, Fam.row N f ∈ h) (d : Dot) : SlN w (underA fs d) (R.under fs d) := by
  unfold underA R.under
  split
  · rename_i hm
    have h1 := (mhas_lt hm).1
    have h1' : mpos (ents fs) d < fs.length := by simpa using h1
    have h2 := hw.ents _ (hf _ (gx_mem (l := fs) (i := (mpos (ents fs) d : Int)) (by omega) (by omega)))
    exact own_slf (row_own h2)
  · exact SlF.nil _ _ _
theorem _root_.Go.J.Hold.under_apart {w0 w : World} {M : List Nat} {own hr : List En} {N : Nat} {fs : List Fam} (hw : Hold w0 M (own ++ hr) w) (hf : ∀ f ∈ fs, Fam.row N f ∈ hr) (d : Dot) : ∀ ad, underA fs d = some ad → ad.block ∉ foots own := by
  intro ad had hm
  unfold underA at had
  split at had
  · rename_i hm'
    have h1 := (mhas_lt hm').1
    have h1' : mpos (ents fs) d < fs.length := by simpa using h1
    have h2 := hf _ (gx_mem (l := fs) (i := (mpos (ents fs) d : Int)) (by omega) (by omega))
    obtain ⟨en, hen, hb⟩ := mem_foots.1 hm
    exact (List.pairwise_append.1 hw.apart).2.2 en hen _ h2 _ hb (by simp [Fam.row, En.row, had])
  · cases had
/-- A step of the walk: a node and its depth. -/
abbrev St := Nd × Int
abbrev sc (x : St) : List Value := [.int .i64 x.1.d.r, .int .i64 x.1.d.c, .int .i64 x.1.p.r, .int .i64 x.1.p.c, .int .i64 x.1.t, .int .i32 x.1.x, .int .i64 x.2]
abbrev SlS (w : World) (A : Option Addr) (l : List St) : Prop := SlF w 7 A l.length (l.flatMap sc)
theorem rdS {w : World} {A : Option Addr} {l : List St} (h : SlS w A l) {i : Int} (h0 : 0 ≤ i) (h1 : i < (l.length : Int)) : Rd w (el A (i.toNat * 7)) (sc (gx l i)) := slf_rd (enc := sc) (k := 7) (fun _ => rfl) h h0 h1
def fcmp (a b : Nd) : Int := if nfirst a b = true then -1 else if nfirst b a = true then 1 else 0
theorem fcmp_neg {a b : Nd} : fcmp a b < 0 ↔ nfirst a b = true := by
  unfold fcmp
  split
  · rename_i h; simp [h]
  · split <;> rename_i h1 h2 <;> simp [h1]
theorem swo_fcmp : Sort.SWO (Proofs.ltOf fcmp) where
  irrefl x := by simp only [Proofs.ltOf, decide_eq_false_iff_not, fcmp_neg, nfirst, dlt]; simp
  trans x y z h1 h2 := by simp only [Proofs.ltOf, decide_eq_true_eq, fcmp_neg] at *; exact nfirst_trans h1 h2
  ntrans x y z h1 h2 := by
    simp only [Proofs.ltOf, decide_eq_false_iff_not, fcmp_neg, Bool.not_eq_true] at *
    exact nfirst_ntrans h2 h1
theorem rev_gx {α : Type} [Inhabited α] (l : List α) (k : Nat) (h : k < l.length) : gx l.reverse (k : Int) = gx l ((l.length : Int) - 1 - k) := by
  have e : ((l.length : Int) - 1 - k) = ((l.length - 1 - k : Nat) : Int) := by omega
  rw [e, gx_nat _ k (by simpa using h), gx_nat l _ (by omega), List.getElem_reverse]
theorem todo_succ (l : List Nd) (todo : List St) (dep : Int) (k : Nat) (i : Int) (hi : i = (l.length : Int) - 1 - k) (h0 : 0 ≤ i) :
    (todo ++ (l.reverse.take (k + 1)).map (fun n => (n, dep))).length = (todo ++ (l.reverse.take k).map (fun n => (n, dep))).length + 1 ∧ (todo ++ (l.reverse.take (k + 1)).map (fun n => (n, dep))).flatMap sc = (todo ++ (l.reverse.take k).map (fun n => (n, dep))).flatMap sc ++ sc (gx l i, dep) := by
  have hk : k < l.reverse.length := by simp; omega
  rw [take_gx l.reverse hk, rev_gx l k (by simpa using hk), ← hi]
  constructor
  · simp; omega
  · simp
theorem kids_len (l : List Nd) (d : Dot) : (kids l d).length ≤ l.length := by
  rw [kids, (isort_perm nfirst _).length_eq]
  exact List.length_filter_le _ _
theorem pop_last (todo : List St) (h : 0 < todo.length) : todo = todo.take (todo.length - 1) ++ [gx todo ((todo.length : Int) - 1)] := by
  obtain ⟨n, hn⟩ : ∃ n, todo.length = n + 1 := ⟨todo.length - 1, by omega⟩
  have e : ((todo.length : Int) - 1) = ((n : Nat) : Int) := by omega
  have e2 : todo.length - 1 = n := by omega
  rw [e, e2, ← take_gx todo (by omega), ← hn, List.take_length]
/-- The stack as the order's laws have it. -/
def stk (todo : List St) : List Nd := todo.reverse.map Prod.fst
theorem stk_pop (todo : List St) (h : 0 < todo.length) : stk todo = (gx todo ((todo.length : Int) - 1)).1 :: stk (todo.take (todo.length - 1)) := by
  conv => lhs; rw [pop_last todo h]
  simp [stk]
theorem stk_push (todo : List St) (ks : List Nd) (dep : Int) : stk (todo ++ ks.reverse.map (fun n => (n, dep))) = ks ++ stk todo := by
  simp [stk, Function.comp_def]
theorem step_dep {todo : List St} {out ks : List Nd} {m : Nd} {dep : Int} {k : Nat} (h : ∀ x ∈ todo, 0 ≤ x.2 ∧ x.2 ≤ out.length) (hx : 0 ≤ dep ∧ dep ≤ out.length) : ∀ x ∈ todo.take k ++ ks.reverse.map (fun n => (n, dep + 1)), 0 ≤ x.2 ∧ x.2 ≤ ((out ++ [m]).length : Int) := by
  intro x hm
  simp only [List.length_append, List.length_cons, List.length_nil]
  rcases List.mem_append.1 hm with hm | hm
  · have := h x (List.mem_of_mem_take hm)
    omega
  · obtain ⟨n, _, rfl⟩ := List.mem_map.1 hm
    dsimp only
    omega
end Go.R
