/- Plain laws: what an edit does to the order of a tree, and to its text. It speaks of no program. -/
import Derived.Test.YtpbillinpjccdaaGreatRhQ
set_option linter.unusedVariables false
set_option linter.unusedSimpArgs false
set_option linter.unusedSectionVars false
namespace Go.R
open Go.J
theorem idx_hit {α : Type} [Inhabited α] (p : α → Bool) : ∀ {l : List α}, 0 ≤ idx p l → p (gx l (idx p l)) = true
  | [], h => by simp [idx] at h
  | x :: l, h => by
    simp only [idx] at h ⊢
    split
    · rename_i hx; simpa [gx] using hx
    · rename_i hx
      split
      · rename_i h1; simp [hx, h1] at h
      · rename_i h1
        have ih := idx_hit p (l := l) (by omega)
        obtain ⟨q, hq⟩ := Int.eq_ofNat_of_zero_le (show 0 ≤ idx p l by omega)
        rw [hq] at ih ⊢
        have e1 : ((q : Int) + 1).toNat = q + 1 := by omega
        simpa [gx, e1] using ih
theorem fnd_hit {l : List Nd} {d : Dot} (h : 0 ≤ fnd l d) : gx l (fnd l d) ∈ l ∧ (gx l (fnd l d)).d = d := by
  have h1 := idx_hit (fun n : Nd => decide (n.d = d)) h
  have h2 := (idx_bd (fun n : Nd => decide (n.d = d)) l).2
  exact ⟨gx_mem h h2, of_decide_eq_true h1⟩
theorem fnd_of {l : List Nd} {n : Nd} (h : n ∈ l) : 0 ≤ fnd l n.d := (idx_any _ _).2 (List.any_eq_true.2 ⟨n, h, by simp⟩)
theorem fnd_dd {l : List Nd} (hd : DD l) {n : Nd} (h : n ∈ l) : gx l (fnd l n.d) = n := by
  obtain ⟨h1, h2⟩ := fnd_hit (fnd_of h)
  exact hd.inj h1 h h2
theorem droot_iff {d : Dot} : droot d = true ↔ d = rt := by simp [droot, rt]
theorem well_set {l : List Nd} : well l = true ↔ storeOk l = true ∧ ∀ n ∈ l, n.p = rt ∨ ∃ m ∈ l, m.d = n.p ∧ m.t < n.t := by
  simp only [well, Bool.and_eq_true, List.all_eq_true, Bool.or_eq_true, decide_eq_true_eq, droot_iff]
  constructor
  · rintro ⟨h1, h2⟩
    exact ⟨h1, fun n hn => (h2 n hn).imp id fun ⟨h3, h4⟩ => ⟨_, (fnd_hit h3).1, (fnd_hit h3).2, h4⟩⟩
  · rintro ⟨h1, h2⟩
    refine ⟨h1, fun n hn => (h2 n hn).imp id ?_⟩
    rintro ⟨m, hm, e, ht⟩
    rw [← e]
    exact ⟨fnd_of hm, by rw [fnd_dd (storeOk_dd h1) hm]; exact ht⟩
theorem kids_of {l m : List Nd} (hd : DD l) {e : Dot} (hn : m.Nodup) (hm : ∀ n, n ∈ m ↔ n ∈ l ∧ n.p = e) (hs : nsorted m) : kids l e = m := by
  refine (isort_unique (hd.filter _) (perm_of_mem hn ?_ fun n => ?_) hs).symm
  · exact List.Nodup.sublist List.filter_sublist hd.nodup
  · rw [hm n, List.mem_filter]
    simp
/-! ### chains -/
def nxt (d : Dot) : Dot := ⟨d.r, d.c + 1⟩
def chainF (d p : Dot) (t : Int) : List Int → List Nd
  | [] => []
  | x :: l => ⟨d, p, t, x⟩ :: chainF (nxt d) d (t + 1) l
theorem chainF_len (l : List Int) : ∀ (d p : Dot) (t : Int), (chainF d p t l).length = l.length := by
  induction l with
  | nil => intro d p t; rfl
  | cons x l ih => intro d p t; simp [chainF, ih]
def chainN (d p : Dot) (t : Int) (l : List Int) (i : Nat) : Nd := ⟨⟨d.r, d.c + i⟩, if i = 0 then p else ⟨d.r, d.c + i - 1⟩, t + i, gx l (i : Int)⟩
theorem chainF_get (l : List Int) : ∀ (d p : Dot) (t : Int) (i : Nat), i < l.length → (chainF d p t l)[i]? = some (chainN d p t l i) := by
  induction l with
  | nil => intro d p t i h; simp at h
  | cons x l ih =>
    intro d p t i h
    cases i with
    | zero => simp [chainF, chainN, gx]
    | succ i =>
      have h' : i < l.length := by simpa using h
      have h1 : (((i : Nat) : Int) + 1).toNat = i + 1 := by omega
      simp only [chainF, List.getElem?_cons_succ]
      rw [ih (nxt d) d (t + 1) i h']
      simp only [chainN, nxt, Option.some.injEq, Nd.eq_iff, Dot.eq_iff, true_and]
      refine ⟨by omega, ?_, by omega, ?_⟩
      · rcases Nat.eq_zero_or_pos i with h9 | h9
        · subst h9; simp
        · rw [if_neg (by omega), if_neg (by omega)]; simp; omega
      · simp [gx]
theorem chainF_mem {l : List Int} {d p : Dot} {t : Int} {n : Nd} : n ∈ chainF d p t l ↔ ∃ i, i < l.length ∧ n = chainN d p t l i := by
  rw [List.mem_iff_getElem?]
  constructor
  · rintro ⟨i, hi⟩
    have h1 : i < l.length := by have := (List.getElem?_eq_some_iff.1 hi).1; rwa [chainF_len] at this
    rw [chainF_get l d p t i h1] at hi
    exact ⟨i, h1, (Option.some.inj hi).symm⟩
  · rintro ⟨i, h1, rfl⟩
    exact ⟨i, chainF_get l d p t i h1⟩
theorem chainF_sd (l : List Int) : ∀ (d p : Dot) (t : Int), Sd (chainF d p t l) := by
  intro d p t
  unfold Sd Sorted
  rw [List.pairwise_map, List.pairwise_iff_getElem]
  intro i j hi hj hij
  rw [chainF_len] at hi hj
  have h1 := chainF_get l d p t i hi
  have h2 := chainF_get l d p t j hj
  rw [List.getElem?_eq_getElem (by rw [chainF_len]; exact hi)] at h1
  rw [List.getElem?_eq_getElem (by rw [chainF_len]; exact hj)] at h2
  rw [Option.some.inj h1, Option.some.inj h2]
  unfold dlt chainN
  exact .inl (by dsimp only; omega)
/-! ### an edit -/
def killK (K : List Dot) (n : Nd) : Nd := if n.d ∈ K then kill n else n
theorem killK_d (K : List Dot) (n : Nd) : (killK K n).d = n.d := by unfold killK; split <;> rfl
theorem killK_p (K : List Dot) (n : Nd) : (killK K n).p = n.p := by unfold killK; split <;> rfl
theorem killK_t (K : List Dot) (n : Nd) : (killK K n).t = n.t := by unfold killK; split <;> rfl
def goneF (s : List Nd) (K : List Dot) : List Nd := (s.filter fun n => decide (n.d ∈ K)).map kill
structure Ed (s : List Nd) (K : List Dot) (p d : Dot) (l : List Int) : Prop where
  well : well s = true
  dv : dvalid d = true
  hi : d.c + l.length ≤ 4294967296
  time : maxTime s + l.length ≤ 4611686018427387904
  runes : ∀ x ∈ l, rvalid x = true
  fresh : ∀ n ∈ s, ∀ i : Nat, i < l.length → n.d ≠ ⟨d.r, d.c + i⟩
  par : p = rt ∨ ∃ n ∈ s, n.d = p
theorem maxTime_ge (l : List Nd) : ∀ n ∈ l, n.t ≤ maxTime l := by
  have key : ∀ (l : List Nd) (m : Int), m ≤ l.foldl (fun m n => max m n.t) m ∧ ∀ n ∈ l, n.t ≤ l.foldl (fun m n => max m n.t) m := by
    intro l
    induction l with
    | nil => intro m; simp
    | cons x l ih =>
      intro m
      obtain ⟨h1, h2⟩ := ih (max m x.t)
      simp only [List.foldl_cons]
      refine ⟨by omega, fun n hn => ?_⟩
      rcases List.mem_cons.1 hn with rfl | hn
      · omega
      · exact h2 n hn
  exact fun n hn => (key l 0).2 n hn
theorem maxTime_nonneg (l : List Nd) : 0 ≤ maxTime l := by
  have key : ∀ (l : List Nd) (m : Int), m ≤ l.foldl (fun m n => max m n.t) m := by
    intro l
    induction l with
    | nil => intro m; simp
    | cons x l ih => intro m; have := ih (max m x.t); simp only [List.foldl_cons]; omega
  exact key l 0
section
variable {s : List Nd} {K : List Dot} {p d : Dot} {l : List Int}
theorem goneF_sd (h : Sd s) (K : List Dot) : Sd (goneF s K) := by
  unfold Sd goneF Sorted
  rw [List.map_map, show (Nd.d ∘ kill) = Nd.d from rfl]
  exact List.Pairwise.sublist (List.Sublist.map _ List.filter_sublist) h
theorem goneF_get (h : Sd s) (K : List Dot) (e : Dot) : get (goneF s K) e = if e ∈ K then (get s e).map kill else none := by
  cases hg : get (goneF s K) e with
  | none =>
    have h1 := get_none.1 hg
    split
    · rename_i hk
      cases hs : get s e with
      | none => rfl
      | some n =>
        obtain ⟨h2, h3⟩ := get_some hs
        exact absurd (show (kill n).d = e from h3) (h1 (kill n) (List.mem_map.2 ⟨n, List.mem_filter.2 ⟨h2, by simpa [h3] using hk⟩, rfl⟩))
    · rfl
  | some m =>
    obtain ⟨h1, h2⟩ := get_some hg
    obtain ⟨n, hn, rfl⟩ := List.mem_map.1 h1
    obtain ⟨h3, h4⟩ := List.mem_filter.1 hn
    have h5 : n.d = e := h2
    subst h5
    rw [if_pos (by simpa using h4), get_mem h.dd h3]
    rfl
theorem Ed.sd (h : Ed s K p d l) : Sd s := storeOk_sorted (well_store h.well)
theorem Ed.chain_fresh (h : Ed s K p d l) {t : Int} {n m : Nd} (hn : n ∈ s) (hm : m ∈ chainF d p t l) : n.d ≠ m.d := by
  obtain ⟨i, hi, rfl⟩ := chainF_mem.1 hm
  exact h.fresh n hn i hi
theorem Ed.chain_valid (h : Ed s K p d l) : ∀ n ∈ chainF d p (maxTime s + 1) l, nvalid n = true := by
  intro n hn
  obtain ⟨i, hi, rfl⟩ := chainF_mem.1 hn
  have h0 := maxTime_nonneg s
  have hdv := h.dv
  have hhi := h.hi
  have hti := h.time
  have hr := h.runes (gx l (i : Int)) (gx_mem (by omega) (by omega))
  have hp : i = 0 → p ≠ ⟨d.r, d.c + (i : Int)⟩ ∧ (droot p = true ∨ dvalid p = true) := by
    intro _
    rcases h.par with e | ⟨m, hm, e⟩
    · refine ⟨fun e2 => ?_, .inl (droot_iff.2 e)⟩
      rw [e] at e2
      simp only [rt, Dot.mk.injEq] at e2
      simp only [dvalid, decide_eq_true_eq] at hdv
      omega
    · refine ⟨fun e2 => h.fresh m hm i hi (e.trans e2), .inr ?_⟩
      have := storeOk_all (well_store h.well) m hm
      simp only [nvalid, decide_eq_true_eq] at this
      rw [← e]
      exact this.1
  simp only [dvalid, decide_eq_true_eq] at hdv
  unfold nvalid
  rw [decide_eq_true_eq]
  simp only [chainN]
  refine ⟨by simp only [dvalid, decide_eq_true_eq]; omega, ?_, ?_, by omega, by omega, .inr hr⟩
  · by_cases h9 : i = 0
    · rw [if_pos h9]; exact (hp h9).2
    · rw [if_neg h9]; refine .inr ?_; simp only [dvalid, decide_eq_true_eq]; omega
  · by_cases h9 : i = 0
    · rw [if_pos h9]; exact (hp h9).1
    · rw [if_neg h9]; intro e; simp only [Dot.mk.injEq] at e; omega
def deltaF (s : List Nd) (K : List Dot) (p d : Dot) (l : List Int) : List Nd := jn (goneF s K) (chainF d p (maxTime s + 1) l)
theorem Ed.agree1 (h : Ed s K p d l) : agree (goneF s K) (chainF d p (maxTime s + 1) l) = true := agree_iff.2 fun n hn m hm e => by
  obtain ⟨x, hx, rfl⟩ := List.mem_map.1 hn
  exact absurd (show x.d = m.d from e) (h.chain_fresh (List.mem_filter.1 hx).1 hm)
theorem Ed.delta_sd (h : Ed s K p d l) : Sd (deltaF s K p d l) := jn_sd (goneF_sd h.sd K) (chainF_sd l d p _) h.agree1
theorem Ed.delta_get (h : Ed s K p d l) (e : Dot) : get (deltaF s K p d l) e = comb (if e ∈ K then (get s e).map kill else none) (get (chainF d p (maxTime s + 1) l) e) := by
  rw [deltaF, get_jn (goneF_sd h.sd K) (chainF_sd l d p _) h.agree1, goneF_get h.sd]
theorem jmg_kill (n : Nd) : (jmg n (kill n)).2 = true ∧ (jmg n (kill n)).1 = kill n := by
  have h1 : (jmg n (kill n)).2 = true := by rw [jmg_ok, decide_eq_true_eq]; exact ⟨rfl, rfl, rfl, .inr (.inl rfl)⟩
  refine ⟨h1, ?_⟩
  rw [jmg_eq h1]
  show (⟨n.d, n.p, n.t, if (0 : Int) = 0 then 0 else n.x⟩ : Nd) = _
  rw [if_pos rfl]
  rfl
theorem Ed.chain_get_none (h : Ed s K p d l) {n : Nd} (hn : n ∈ s) (t : Int) : get (chainF d p t l) n.d = none := get_none.2 fun m hm e => h.chain_fresh hn hm e.symm
theorem Ed.agree2 (h : Ed s K p d l) : agree s (deltaF s K p d l) = true := agree_iff.2 fun n hn m hm e => by
  have h1 := (get_iff h.delta_sd.dd (n := m) (d := n.d)).2 ⟨hm, e.symm⟩
  rw [h.delta_get, h.chain_get_none hn, comb_none] at h1
  split at h1
  · rw [get_mem h.sd.dd hn] at h1
    simp only [Option.map_some, Option.some.injEq] at h1
    rw [← h1]
    exact (jmg_kill n).1
  · cases h1
def nextF (s : List Nd) (K : List Dot) (p d : Dot) (l : List Int) : List Nd := jn s (deltaF s K p d l)
theorem Ed.next_sd (h : Ed s K p d l) : Sd (nextF s K p d l) := jn_sd h.sd h.delta_sd h.agree2
theorem Ed.next_mem (h : Ed s K p d l) (n : Nd) : n ∈ nextF s K p d l ↔ n ∈ s.map (killK K) ∨ n ∈ chainF d p (maxTime s + 1) l := by
  rw [nextF, jn_mem h.sd h.delta_sd h.agree2, h.delta_get]
  cases hs : get s n.d with
  | none =>
    have h1 := get_none.1 hs
    have e1 : (if n.d ∈ K then Option.map kill (none : Option Nd) else none) = none := by split <;> rfl
    rw [e1]
    simp only [comb]
    have h2 : n ∉ s.map (killK K) := fun hm => by
      obtain ⟨m, hm, e⟩ := List.mem_map.1 hm
      exact h1 m hm (by rw [← e, killK_d])
    have h3 := get_iff (chainF_sd l d p (maxTime s + 1)).dd (n := n) (d := n.d)
    constructor
    · intro hg; exact .inr (h3.1 hg).1
    · rintro (hm | hm)
      · exact absurd hm h2
      · exact h3.2 ⟨hm, rfl⟩
  | some m =>
    obtain ⟨hm, hd⟩ := get_some hs
    rw [← hd, h.chain_get_none hm, comb_none, hd]
    have h2 : n ∉ chainF d p (maxTime s + 1) l := fun hc => h.chain_fresh hm hc hd
    have h3 : (n ∈ s.map (killK K)) ↔ killK K m = n := by
      constructor
      · intro hx
        obtain ⟨x, hx, e⟩ := List.mem_map.1 hx
        have : x = m := h.sd.dd.inj hx hm (by rw [hd, ← e, killK_d])
        rw [← this, e]
      · intro e
        exact List.mem_map.2 ⟨m, hm, e⟩
    simp only [h2, or_false, h3]
    unfold killK
    rw [hd]
    by_cases hk : n.d ∈ K
    · rw [if_pos hk, if_pos hk]
      simp only [comb, Option.map_some, (jmg_kill m).2, Option.some.injEq]
    · rw [if_neg hk, if_neg hk]
      simp only [comb, Option.some.injEq]
theorem nvalid_kill {n : Nd} (h : nvalid n = true) : nvalid (kill n) = true := by
  simp only [nvalid, decide_eq_true_eq, kill] at *
  obtain ⟨h1, h2, h3, h4, h5, _⟩ := h
  exact ⟨h1, h2, h3, h4, h5, by simp⟩
theorem nvalid_killK {n : Nd} (h : nvalid n = true) : nvalid (killK K n) = true := by
  unfold killK
  split
  · exact nvalid_kill h
  · exact h
theorem Ed.next_ok (h : Ed s K p d l) : storeOk (nextF s K p d l) = true := by
  simp only [storeOk, Bool.and_eq_true, List.all_eq_true, decide_eq_true_eq]
  refine ⟨fun n hn => ?_, h.next_sd⟩
  rcases (h.next_mem n).1 hn with hm | hm
  · obtain ⟨m, hm', rfl⟩ := List.mem_map.1 hm
    replace hm := hm'
    exact nvalid_killK (storeOk_all (well_store h.well) m hm)
  · exact h.chain_valid n hm
theorem Ed.next_well (h : Ed s K p d l) : R.well (nextF s K p d l) = true := by
  refine well_set.2 ⟨h.next_ok, fun n hn => ?_⟩
  have hp := (well_set.1 h.well).2
  rcases (h.next_mem n).1 hn with hm | hm
  · obtain ⟨m, hm', rfl⟩ := List.mem_map.1 hm
    replace hm := hm'
    rw [killK_p, killK_t]
    refine (hp m hm).imp id ?_
    rintro ⟨q, hq, e, ht⟩
    exact ⟨killK K q, (h.next_mem _).2 (.inl (List.mem_map_of_mem hq)), by rw [killK_d, e], by rw [killK_t]; exact ht⟩
  · obtain ⟨i, hi, rfl⟩ := chainF_mem.1 hm
    by_cases h9 : i = 0
    · subst h9
      have e : (chainN d p (maxTime s + 1) l 0).p = p := rfl
      rw [e]
      rcases h.par with e | ⟨m, hm, e⟩
      · exact .inl e
      · refine .inr ⟨killK K m, (h.next_mem _).2 (.inl (List.mem_map_of_mem hm)), by rw [killK_d, e], ?_⟩
        rw [killK_t]
        have := maxTime_ge s m hm
        simp only [chainN]
        omega
    · refine .inr ⟨chainN d p (maxTime s + 1) l (i - 1), (h.next_mem _).2 (.inr (chainF_mem.2 ⟨i - 1, by omega, rfl⟩)), ?_, ?_⟩
      · simp only [chainN, if_neg h9, Dot.mk.injEq, true_and]; omega
      · simp only [chainN]; omega
/-! ### the order behind an edit -/
theorem nfirst_killK (K : List Dot) (a b : Nd) : nfirst (killK K a) (killK K b) = nfirst a b := by unfold nfirst; rw [killK_d, killK_d, killK_t, killK_t]
theorem killK_inj_on (h : DD s) : ∀ {a b : Nd}, a ∈ s → b ∈ s → killK K a = killK K b → a = b := fun ha hb e => h.inj ha hb (by have := congrArg Nd.d e; rwa [killK_d, killK_d] at this)
theorem nodup_map_on {α β : Type} {f : α → β} : ∀ {l : List α}, (∀ a ∈ l, ∀ b ∈ l, f a = f b → a = b) → l.Nodup → (l.map f).Nodup
  | [], _, _ => by simp
  | x :: l, hf, hn => by
    obtain ⟨h1, h2⟩ := List.nodup_cons.1 hn
    refine List.nodup_cons.2 ⟨fun hm => ?_, nodup_map_on (fun a ha b hb => hf a (List.mem_cons_of_mem _ ha) b (List.mem_cons_of_mem _ hb)) h2⟩
    obtain ⟨y, hy, e⟩ := List.mem_map.1 hm
    have := hf y (List.mem_cons_of_mem _ hy) x (List.mem_cons_self ..) e
    exact h1 (this ▸ hy)
theorem Ed.not_chain_dot (h : Ed s K p d l) {q : Dot} (hq : q = rt ∨ ∃ n ∈ s, n.d = q) {i : Nat} (hi : i < l.length) : q ≠ ⟨d.r, d.c + i⟩ := by
  rcases hq with rfl | ⟨n, hn, rfl⟩
  · intro e
    have := h.dv
    simp only [rt, Dot.mk.injEq] at e
    simp only [dvalid, decide_eq_true_eq] at this
    omega
  · exact h.fresh n hn i hi
/-- The children of what was there before, and of the root. -/
theorem Ed.kids_old (h : Ed s K p d l) {e : Dot} (he : e = rt ∨ ∃ n ∈ s, n.d = e) : kids (nextF s K p d l) e = (if e = p then (chainF d p (maxTime s + 1) l).take 1 else []) ++ (kids s e).map (killK K) := by
  have hdd := h.next_sd.dd
  have hkn : ((kids s e).map (killK K)).Nodup := nodup_map_on (fun a ha b hb => killK_inj_on h.sd.dd (kids_mem.1 ha).1 (kids_mem.1 hb).1) (kids_nodup h.sd.dd e)
  have hks : nsorted ((kids s e).map (killK K)) := by
    refine List.pairwise_map.2 ((isort_nsorted _).imp ?_)
    intro a b hab
    rw [nfirst_killK]
    exact hab
  have hmem : ∀ n, n ∈ (kids s e).map (killK K) ↔ n ∈ s.map (killK K) ∧ n.p = e := by
    intro n
    constructor
    · intro hn
      obtain ⟨m, hm, rfl⟩ := List.mem_map.1 hn
      obtain ⟨h1, h2⟩ := kids_mem.1 hm
      exact ⟨List.mem_map_of_mem h1, by rw [killK_p]; exact h2⟩
    · rintro ⟨hn, hp⟩
      obtain ⟨m, hm, rfl⟩ := List.mem_map.1 hn
      exact List.mem_map_of_mem (kids_mem.2 ⟨hm, by rw [killK_p] at hp; exact hp⟩)
  have hch : ∀ n, n ∈ chainF d p (maxTime s + 1) l → n.p = e → n = chainN d p (maxTime s + 1) l 0 ∧ p = e := by
    intro n hn hp
    obtain ⟨i, hi, rfl⟩ := chainF_mem.1 hn
    by_cases h9 : i = 0
    · subst h9
      exact ⟨rfl, hp⟩
    · exfalso
      simp only [chainN, if_neg h9] at hp
      refine h.not_chain_dot he (i := i - 1) (by omega) (hp.symm.trans ?_)
      simp only [Dot.mk.injEq, true_and]
      omega
  cases l with
  | nil =>
    have e0 : (if e = p then (chainF d p (maxTime s + 1) ([] : List Int)).take 1 else []) = [] := by split <;> rfl
    rw [e0, List.nil_append]
    refine kids_of hdd hkn (fun n => ?_) hks
    rw [hmem, h.next_mem]
    simp [chainF]
  | cons x l =>
    by_cases hep : e = p
    · rw [if_pos hep]
      have ec : (chainF d p (maxTime s + 1) (x :: l)).take 1 = [chainN d p (maxTime s + 1) (x :: l) 0] := by simp [chainF, chainN, gx]
      rw [ec]
      have hc0 : chainN d p (maxTime s + 1) (x :: l) 0 ∈ chainF d p (maxTime s + 1) (x :: l) := chainF_mem.2 ⟨0, by simp, rfl⟩
      refine kids_of hdd ?_ (fun n => ?_) ?_
      · refine List.nodup_append.2 ⟨by simp, hkn, fun a ha b hb e2 => ?_⟩
        simp at ha
        subst ha
        subst e2
        obtain ⟨m, hm, e3⟩ := List.mem_map.1 ((hmem _).1 hb).1
        exact h.chain_fresh hm hc0 (by rw [← e3, killK_d])
      · rw [List.mem_append, hmem, h.next_mem]
        constructor
        · rintro (hn | ⟨hn, hp⟩)
          · have : n = chainN d p (maxTime s + 1) (x :: l) 0 := by simpa using hn
            rw [this]
            exact ⟨.inr hc0, hep.symm⟩
          · exact ⟨.inl hn, hp⟩
        · rintro ⟨hn | hn, hp⟩
          · exact .inr ⟨hn, hp⟩
          · exact .inl (by simp [(hch n hn hp).1])
      · refine List.pairwise_append.2 ⟨List.pairwise_singleton _ _, hks, fun a ha b hb => ?_⟩
        obtain rfl : a = chainN d p (maxTime s + 1) (x :: l) 0 := by simpa using ha
        obtain ⟨m, hm, rfl⟩ := List.mem_map.1 ((hmem _).1 hb).1
        have := maxTime_ge s m hm
        simp only [nfirst, decide_eq_false_iff_not, killK_t, chainN]
        omega
    · rw [if_neg hep, List.nil_append]
      refine kids_of hdd hkn (fun n => ?_) hks
      rw [hmem, h.next_mem]
      constructor
      · rintro ⟨hn, hp⟩; exact ⟨.inl hn, hp⟩
      · rintro ⟨hn | hn, hp⟩
        · exact ⟨hn, hp⟩
        · exact absurd (hch n hn hp).2.symm hep
/-- The children of a node of the chain. -/
theorem Ed.kids_new (h : Ed s K p d l) {i : Nat} (hi : i < l.length) : kids (nextF s K p d l) ⟨d.r, d.c + i⟩ = ((chainF d p (maxTime s + 1) l).drop (i + 1)).take 1 := by
  have hmem : ∀ n, n ∈ nextF s K p d l ∧ n.p = ⟨d.r, d.c + i⟩ ↔ i + 1 < l.length ∧ n = chainN d p (maxTime s + 1) l (i + 1) := by
    intro n
    rw [h.next_mem]
    constructor
    · rintro ⟨hn | hn, hp⟩
      · exfalso
        obtain ⟨m, hm, rfl⟩ := List.mem_map.1 hn
        rw [killK_p] at hp
        rcases (well_set.1 h.well).2 m hm with e | ⟨q, hq, e, _⟩
        · exact h.not_chain_dot (.inl rfl) hi (e.symm.trans hp)
        · exact h.not_chain_dot (.inr ⟨q, hq, rfl⟩) hi (e.trans hp)
      · obtain ⟨j, hj, rfl⟩ := chainF_mem.1 hn
        by_cases h9 : j = 0
        · exfalso
          subst h9
          exact h.not_chain_dot h.par hi hp
        · simp only [chainN, if_neg h9, Dot.mk.injEq, true_and] at hp
          have : j = i + 1 := by omega
          subst this
          exact ⟨hj, rfl⟩
    · rintro ⟨hi1, rfl⟩
      refine ⟨.inr (chainF_mem.2 ⟨_, hi1, rfl⟩), ?_⟩
      simp only [chainN, if_neg (Nat.succ_ne_zero i), Dot.mk.injEq, true_and]
      omega
  by_cases hi1 : i + 1 < l.length
  · have ed : ((chainF d p (maxTime s + 1) l).drop (i + 1)).take 1 = [chainN d p (maxTime s + 1) l (i + 1)] := by
      have h1 := chainF_get l d p (maxTime s + 1) (i + 1) hi1
      have h2 : i + 1 < (chainF d p (maxTime s + 1) l).length := by rw [chainF_len]; exact hi1
      rw [List.getElem?_eq_getElem h2] at h1
      rw [List.drop_eq_getElem_cons h2, Option.some.inj h1]
      rfl
    rw [ed]
    refine kids_of h.next_sd.dd (by simp) (fun n => ?_) (List.pairwise_singleton _ _)
    rw [hmem]
    simp [hi1]
  · have ed : ((chainF d p (maxTime s + 1) l).drop (i + 1)).take 1 = [] := by
      rw [List.drop_of_length_le (by rw [chainF_len]; omega)]
      rfl
    rw [ed]
    refine kids_of h.next_sd.dd (by simp) (fun n => ?_) .nil
    rw [hmem]
    simp [hi1]
theorem Ed.walk_chain (h : Ed s K p d l) {rest out : List Nd} (hw : Walk (nextF s K p d l) rest out) : ∀ (k i : Nat), l.length - i = k → Walk (nextF s K p d l) (((chainF d p (maxTime s + 1) l).drop i).take 1 ++ rest) ((chainF d p (maxTime s + 1) l).drop i ++ out)
  | 0, i, hk => by
    rw [List.drop_of_length_le (by rw [chainF_len]; omega)]
    exact hw
  | k + 1, i, hk => by
    have hi : i < l.length := by omega
    have h1 := chainF_get l d p (maxTime s + 1) i hi
    have h2 : i < (chainF d p (maxTime s + 1) l).length := by rw [chainF_len]; exact hi
    rw [List.getElem?_eq_getElem h2] at h1
    have ih := h.walk_chain hw k (i + 1) (by omega)
    rw [List.drop_eq_getElem_cons h2, Option.some.inj h1]
    simp only [List.take_succ_cons, List.take_zero, List.cons_append, List.nil_append]
    refine .cons ?_
    rw [show (chainN d p (maxTime s + 1) l i).d = ⟨d.r, d.c + i⟩ from rfl, h.kids_new hi]
    exact ih
def insA (K : List Dot) (p : Dot) (C : List Nd) (n : Nd) : List Nd := killK K n :: if n.d = p then C else []
theorem Ed.walk (h : Ed s K p d l) {st out : List Nd} (hw : Walk s st out) : (∀ n ∈ st, n ∈ s) → Walk (nextF s K p d l) (st.map (killK K)) (out.flatMap (insA K p (chainF d p (maxTime s + 1) l))) := by
  induction hw with
  | nil => intro _; exact .nil
  | @cons n st out _ ih =>
    intro hst
    have hn := hst n (List.mem_cons_self ..)
    have ih' := ih fun m hm => by
      rcases List.mem_append.1 hm with hm | hm
      · exact (kids_mem.1 hm).1
      · exact hst m (List.mem_cons_of_mem _ hm)
    rw [List.map_append] at ih'
    simp only [List.map_cons, List.flatMap_cons, insA, List.cons_append]
    refine .cons ?_
    rw [killK_d, h.kids_old (.inr ⟨n, hn, rfl⟩)]
    by_cases hp : n.d = p
    · rw [if_pos hp, if_pos hp, List.append_assoc]
      have := h.walk_chain ih' l.length 0 (by omega)
      simpa using this
    · rw [if_neg hp, if_neg hp, List.nil_append, List.nil_append]
      exact ih'
/-- THE ORDER BEHIND AN EDIT: what was inserted stands right behind its place. -/
theorem Ed.order (h : Ed s K p d l) : R.order (nextF s K p d l) = (if p = rt then chainF d p (maxTime s + 1) l else []) ++ (R.order s).flatMap (insA K p (chainF d p (maxTime s + 1) l)) := by
  refine (walk_order h.next_ok ?_).symm
  have h1 := h.walk (order_walk (well_store h.well)) fun n hn => (kids_mem.1 hn).1
  rw [h.kids_old (.inl rfl)]
  by_cases hp : p = rt
  · rw [if_pos hp.symm, if_pos hp]
    have := h.walk_chain h1 l.length 0 (by omega)
    simpa using this
  · rw [if_neg (fun e => hp e.symm), if_neg hp]
    simpa using h1
end
end Go.R
