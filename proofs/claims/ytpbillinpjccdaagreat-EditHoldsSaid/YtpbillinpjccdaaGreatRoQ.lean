/- What an edit does to the text, and two edits of one state. It speaks of no program. -/
import Derived.Test.YtpbillinpjccdaaGreatRmQ
set_option linter.unusedVariables false
set_option linter.unusedSimpArgs false
set_option linter.unusedSectionVars false
namespace Go.R
open Go.J
def pd (v : List Nd) (i : Nat) : Dot := if i = 0 then rt else (gx v ((i : Int) - 1)).d
def kd (v : List Nd) (i n : Nat) : List Dot := ((v.drop i).take n).map Nd.d
theorem parR_pd (s : List Nd) (i : Nat) : parR s (i : Int) = pd (visN s) i := by
  unfold parR pd
  by_cases h : i = 0
  · subst h; rfl
  · rw [if_neg h, if_neg (by omega)]
theorem cutK_kd (s : List Nd) (i n : Nat) : cutK s (i : Int) (n : Int) = kd (visN s) i n := rfl
theorem fm_congr {C : List Nd} {K K' : List Dot} {p p' : Dot} : ∀ {o : List Nd}, (∀ y ∈ o, (y.d ∈ K ↔ y.d ∈ K') ∧ (y.d = p ↔ y.d = p')) → o.flatMap (insA K p C) = o.flatMap (insA K' p' C)
  | [], _ => rfl
  | x :: o, h => by
    simp only [List.flatMap_cons]
    rw [fm_congr fun y hy => h y (List.mem_cons_of_mem _ hy)]
    have hx := h x (List.mem_cons_self ..)
    congr 1
    unfold insA killK
    by_cases h1 : x.d ∈ K
    · rw [if_pos h1, if_pos (hx.1.1 h1)]
      by_cases h2 : x.d = p
      · rw [if_pos h2, if_pos (hx.2.1 h2)]
      · rw [if_neg h2, if_neg (fun e => h2 (hx.2.2 e))]
    · rw [if_neg h1, if_neg (fun e => h1 (hx.1.2 e))]
      by_cases h2 : x.d = p
      · rw [if_pos h2, if_pos (hx.2.1 h2)]
      · rw [if_neg h2, if_neg (fun e => h2 (hx.2.2 e))]
theorem fm_none {C : List Nd} {K : List Dot} {p : Dot} : ∀ {o : List Nd}, (∀ y ∈ o, y.d ∉ K ∧ y.d ≠ p) → o.flatMap (insA K p C) = o
  | [], _ => rfl
  | x :: o, h => by
    have hx := h x (List.mem_cons_self ..)
    rw [List.flatMap_cons, fm_none fun y hy => h y (List.mem_cons_of_mem _ hy)]
    unfold insA killK
    rw [if_neg hx.1, if_neg hx.2]
    rfl
theorem alive_app (a b : List Nd) : alive (a ++ b) = alive a ++ alive b := List.filter_append ..
theorem alive_sub {o : List Nd} {y : Nd} (h : y ∈ alive o) : y ∈ o := (List.mem_filter.1 h).1
theorem gx_in {α : Type} [Inhabited α] {l : List α} {i : Nat} (h : i < l.length) : gx l (i : Int) ∈ l := by
  rw [gx_nat l i h]
  exact List.getElem_mem h
theorem gx_cons_succ {α : Type} [Inhabited α] (x : α) (l : List α) (i : Nat) : gx (x :: l) ((i + 1 : Nat) : Int) = gx l (i : Int) := by
  unfold gx
  simp [List.getD_eq_getElem?_getD]
theorem kd_sub {v : List Nd} {i n : Nat} {d : Dot} (h : d ∈ kd v i n) : ∃ y ∈ v, y.d = d := by
  obtain ⟨y, hy, rfl⟩ := List.mem_map.1 h
  exact ⟨y, List.mem_of_mem_drop (List.mem_of_mem_take hy), rfl⟩
theorem pd_sub {v : List Nd} {i : Nat} (h0 : i ≠ 0) (h : i ≤ v.length) : ∃ y ∈ v, y.d = pd v i := by
  refine ⟨gx v ((i - 1 : Nat) : Int), gx_in (by omega), ?_⟩
  unfold pd
  rw [if_neg h0]
  have e : ((i - 1 : Nat) : Int) = (i : Int) - 1 := by omega
  rw [e]
/-- THE TEXT BEHIND AN EDIT. -/
theorem cut_main {C : List Nd} (hC : alive C = C) : ∀ (o : List Nd), DD o → (∀ y ∈ o, y.d ≠ rt) → ∀ i n, i ≤ (alive o).length → n ≤ (alive o).length - i →
    (if i = 0 then C else []) ++ alive (o.flatMap (insA (kd (alive o) i n) (pd (alive o) i) C)) = (alive o).take i ++ C ++ (alive o).drop (i + n)
  | [], _, _, i, n, hi, hn => by
    have e : alive [] = [] := rfl
    rw [e] at hi hn ⊢
    have hi0 : i = 0 := by simpa using hi
    subst hi0
    have e2 : ([] : List Nd).flatMap (insA (kd [] 0 n) (pd [] 0) C) = [] := rfl
    rw [if_pos rfl, e2, e]
    simp
  | x :: o, hd, hr, i, n, hi, hn => by
    have hd' : DD o := (List.nodup_cons.1 hd).2
    have hx : ∀ y ∈ o, y.d ≠ x.d := fun y hy e => (List.nodup_cons.1 hd).1 (List.mem_map.2 ⟨y, hy, e⟩)
    have hr' : ∀ y ∈ o, y.d ≠ rt := fun y hy => hr y (List.mem_cons_of_mem _ hy)
    have hxr := hr x (List.mem_cons_self ..)
    have hxv : ∀ {d : Dot} {j m : Nat}, d ∈ kd (alive o) j m → d ≠ x.d := fun h e => by
      obtain ⟨y, hy, h2⟩ := kd_sub h
      exact hx y (alive_sub hy) (h2.trans e)
    have IH := cut_main hC o hd' hr'
    by_cases h0 : x.x = 0
    · have ev : alive (x :: o) = alive o := by unfold alive; rw [List.filter_cons_of_neg (by simp [h0])]
      rw [ev] at hi hn ⊢
      rw [← IH i n hi hn]
      congr 1
      rw [List.flatMap_cons, alive_app]
      have e1 : alive (insA (kd (alive o) i n) (pd (alive o) i) C x) = [] := by
        unfold insA
        have hp : x.d ≠ pd (alive o) i := by
          by_cases hi0 : i = 0
          · unfold pd; rw [if_pos hi0]; exact hxr
          · obtain ⟨y, hy, h2⟩ := pd_sub hi0 hi
            rw [← h2]
            exact fun e => hx y (alive_sub hy) e.symm
        rw [if_neg hp, killK, if_neg fun h => hxv h rfl]
        unfold alive
        rw [List.filter_cons_of_neg (by simp [h0])]
        rfl
      rw [e1]
      rfl
    · have ev : alive (x :: o) = x :: alive o := by unfold alive; rw [List.filter_cons_of_pos (by simp [h0])]
      have eC : ∀ D : List Nd, alive (x :: D) = x :: alive D := fun D => by unfold alive; rw [List.filter_cons_of_pos (by simp [h0])]
      rw [ev] at hi hn ⊢
      match i with
      | 0 =>
        have ep : pd (x :: alive o) 0 = rt := rfl
        rw [ep, if_pos rfl, List.take_zero, List.nil_append]
        match n with
        | 0 =>
          have ek : kd (x :: alive o) 0 0 = [] := rfl
          rw [ek, fm_none (fun y hy => ⟨by simp, hr y hy⟩), ev]
          rfl
        | m + 1 =>
          have ek : kd (x :: alive o) 0 (m + 1) = x.d :: kd (alive o) 0 m := rfl
          have := IH 0 m (Nat.zero_le _) (by simp at hn ⊢; omega)
          rw [if_pos rfl, List.take_zero, List.nil_append] at this
          have ed : (x :: alive o).drop (0 + (m + 1)) = (alive o).drop (0 + m) := by simp
          rw [ek, ed, ← this, List.flatMap_cons, alive_app]
          have e1 : alive (insA (x.d :: kd (alive o) 0 m) rt C x) = [] := by
            unfold insA
            rw [if_neg hxr, killK, if_pos (List.mem_cons_self ..)]
            rfl
          rw [e1, List.nil_append]
          congr 2
          refine fm_congr fun y hy => ⟨?_, Iff.rfl⟩
          rw [List.mem_cons]
          exact ⟨fun h => h.resolve_left (hx y hy), .inr⟩
      | j + 1 =>
        have ek : kd (x :: alive o) (j + 1) n = kd (alive o) j n := rfl
        have hj : j ≤ (alive o).length := by simpa using hi
        have hn' : n ≤ (alive o).length - j := by simp at hn; omega
        have et : (x :: alive o).take (j + 1) = x :: (alive o).take j := rfl
        have ed : (x :: alive o).drop (j + 1 + n) = (alive o).drop (j + n) := by
          rw [show j + 1 + n = (j + n) + 1 by omega]; rfl
        have ht := IH j n hj hn'
        rw [ek, et, ed, if_neg (by omega), List.nil_append, List.flatMap_cons, alive_app]
        have hk : x.d ∉ kd (alive o) j n := fun h => hxv h rfl
        match j with
        | 0 =>
          have ep : pd (x :: alive o) (0 + 1) = x.d := rfl
          rw [if_pos rfl, List.take_zero, List.nil_append] at ht
          rw [ep, List.take_zero]
          have e1 : alive (insA (kd (alive o) 0 n) x.d C x) = x :: C := by
            unfold insA
            rw [if_pos rfl, killK, if_neg hk, eC, hC]
          have e2 : o.flatMap (insA (kd (alive o) 0 n) x.d C) = o.flatMap (insA (kd (alive o) 0 n) rt C) :=
            fm_congr fun y hy => ⟨Iff.rfl, fun h => absurd h (hx y hy), fun h => absurd h (hr' y hy)⟩
          have ep0 : pd (alive o) 0 = rt := rfl
          rw [ep0] at ht
          rw [e1, e2, List.cons_append, ht]
          simp
        | k + 1 =>
          have ep : pd (x :: alive o) (k + 1 + 1) = pd (alive o) (k + 1) := by
            unfold pd
            rw [if_neg (by omega), if_neg (by omega)]
            have e1 : ((k + 1 + 1 : Nat) : Int) - 1 = ((k + 1 : Nat) : Int) := by omega
            have e2 : ((k + 1 : Nat) : Int) - 1 = (k : Int) := by omega
            rw [e1, e2, gx_cons_succ]
          rw [if_neg (by omega), List.nil_append] at ht
          obtain ⟨y, hy, h2⟩ := pd_sub (v := alive o) (i := k + 1) (by omega) hj
          have e1 : alive (insA (kd (alive o) (k + 1) n) (pd (alive o) (k + 1)) C x) = [x] := by
            unfold insA
            rw [if_neg (by rw [← h2]; exact fun e => hx y (alive_sub hy) e.symm), killK, if_neg hk, eC]
            rfl
          rw [ep, e1, ht]
          simp
theorem chain_alive {l : List Int} (h : ∀ x ∈ l, rvalid x = true) (d p : Dot) (t : Int) : alive (chainF d p t l) = chainF d p t l :=
  List.filter_eq_self.2 fun m hm => by
    obtain ⟨i, hi, rfl⟩ := chainF_mem.1 hm
    have h1 := h _ (gx_in hi)
    have h2 : gx l (i : Int) ≠ 0 := fun e => by rw [e] at h1; exact absurd h1 (by decide)
    exact decide_eq_true h2
theorem chain_runes : ∀ (l : List Int) (d p : Dot) (t : Int), (chainF d p t l).map Nd.x = l
  | [], _, _, _ => rfl
  | x :: l, d, p, t => by simp [chainF, chain_runes l]
def cutR (old : List Int) (i n : Nat) (l : List Int) : List Int := old.take i ++ l ++ old.drop (i + n)
theorem vis_valid {s : List Nd} (h : storeOk s = true) {n : Nd} (hn : n ∈ s) : n.d ≠ rt := fun e => by
  have h1 := (Bool.and_eq_true_iff).1 h
  have h2 := List.all_eq_true.1 h1.1 n hn
  simp only [nvalid, decide_eq_true_eq] at h2
  rw [e] at h2
  exact absurd h2.1 (by decide)
section
variable {s : List Nd} {d : Dot} {l : List Int} {i n : Nat}
theorem Ed.vis (h : Ed s (cutK s i n) (parR s i) d l) (hi : i ≤ (visN s).length) (hn : n ≤ (visN s).length - i) :
    visN (nextF s (cutK s i n) (parR s i) d l) = (visN s).take i ++ chainF d (parR s i) (maxTime s + 1) l ++ (visN s).drop (i + n) := by
  have hok := well_store h.well
  have hC := chain_alive h.runes d (parR s i) (maxTime s + 1)
  have hr : ∀ y ∈ R.order s, y.d ≠ rt := fun y hy => vis_valid hok (order_mem hok hy)
  have hm : (if i = 0 then chainF d (parR s i) (maxTime s + 1) l else []) ++ alive ((R.order s).flatMap (insA (kd (visN s) i n) (pd (visN s) i) (chainF d (parR s i) (maxTime s + 1) l))) = (visN s).take i ++ chainF d (parR s i) (maxTime s + 1) l ++ (visN s).drop (i + n) := cut_main hC (R.order s) (order_dd hok) hr i n hi hn
  rw [← parR_pd, ← cutK_kd] at hm
  have e1 : (if parR s i = rt then chainF d (parR s i) (maxTime s + 1) l else []) = if i = 0 then chainF d (parR s i) (maxTime s + 1) l else [] := by
    rw [parR_pd]
    by_cases h0 : i = 0
    · rw [if_pos h0, if_pos (by unfold pd; rw [if_pos h0])]
    · obtain ⟨y, hy, h2⟩ := pd_sub (v := visN s) h0 hi
      rw [if_neg h0, if_neg (by rw [← h2]; exact vis_valid hok (visN_mem hok hy).1)]
  have e2 : alive (if i = 0 then chainF d (parR s i) (maxTime s + 1) l else []) = if i = 0 then chainF d (parR s i) (maxTime s + 1) l else [] := by
    split
    · exact hC
    · rfl
  show alive (R.order (nextF s (cutK s i n) (parR s i) d l)) = _
  rw [h.order, alive_app, e1, e2]
  exact hm
theorem Ed.runesOf (h : Ed s (cutK s i n) (parR s i) d l) (hi : i ≤ (visN s).length) (hn : n ≤ (visN s).length - i) :
    R.runesOf (nextF s (cutK s i n) (parR s i) d l) = cutR (R.runesOf s) i n l := by
  unfold R.runesOf cutR
  rw [h.vis hi hn, List.map_append, List.map_append, chain_runes, List.map_take, List.map_drop]
end
/-! ### two edits of one state -/
section
variable {s : List Nd} {K K' : List Dot} {p p' d d' : Dot} {l l' : List Int}
theorem jmg_killK (n : Nd) : (jmg (killK K n) (killK K' n)).2 = true := by
  rw [jmg_ok, decide_eq_true_eq]
  refine ⟨by rw [killK_d, killK_d], by rw [killK_p, killK_p], by rw [killK_t, killK_t], ?_⟩
  unfold killK
  by_cases h : n.d ∈ K
  · rw [if_pos h]; exact .inl rfl
  · rw [if_neg h]
    by_cases h' : n.d ∈ K'
    · rw [if_pos h']; exact .inr (.inl rfl)
    · rw [if_neg h']; exact .inr (.inr rfl)
theorem chainN_r {d p : Dot} {t : Int} {l : List Int} {n : Nd} (h : n ∈ chainF d p t l) : n.d.r = d.r := by
  obtain ⟨i, _, rfl⟩ := chainF_mem.1 h
  rfl
theorem two_agree (ha : Ed s K p d l) (hb : Ed s K' p' d' l') (hne : d.r ≠ d'.r) : agree (nextF s K p d l) (nextF s K' p' d' l') = true := agree_iff.2 fun n hn m hm e => by
  rcases (ha.next_mem n).1 hn with h1 | h1 <;> rcases (hb.next_mem m).1 hm with h2 | h2
  · obtain ⟨x, hx, rfl⟩ := List.mem_map.1 h1
    obtain ⟨y, hy, rfl⟩ := List.mem_map.1 h2
    rw [killK_d, killK_d] at e
    have := ha.sd.dd.inj hx hy e
    subst this
    exact jmg_killK x
  · obtain ⟨x, hx, rfl⟩ := List.mem_map.1 h1
    rw [killK_d] at e
    exact absurd e (hb.chain_fresh hx h2)
  · obtain ⟨y, hy, rfl⟩ := List.mem_map.1 h2
    rw [killK_d] at e
    exact absurd e.symm (ha.chain_fresh hy h1)
  · exact absurd ((chainN_r h1).symm.trans ((congrArg Dot.r e).trans (chainN_r h2))) hne
theorem comb_pt {x y : Option Nd} {n : Nd} (h : comb x y = some n) (hag : ∀ a b, x = some a → y = some b → (jmg a b).2 = true) : (∃ a, x = some a ∧ a.p = n.p ∧ a.t = n.t) ∨ ∃ a, y = some a ∧ a.p = n.p ∧ a.t = n.t := by
  cases x with
  | none => exact .inr ⟨n, h, rfl, rfl⟩
  | some a =>
    cases y with
    | none => exact .inl ⟨n, h, rfl, rfl⟩
    | some b =>
      refine .inl ⟨a, rfl, ?_⟩
      have hj := hag a b rfl rfl
      simp only [comb, Option.some.injEq] at h
      rw [jmg_eq hj] at h
      subst h
      exact ⟨rfl, rfl⟩
theorem jn_well {a b : List Nd} (ha : well a = true) (hb : well b = true) (h : agree a b = true) : well (jn a b) = true := by
  have hsa := storeOk_sorted (well_store ha)
  have hsb := storeOk_sorted (well_store hb)
  refine well_set.2 ⟨jn_ok (well_store ha) (well_store hb) h, fun n hn => ?_⟩
  have pick : ∀ (c : List Nd), well c = true → (∀ m ∈ c, ∃ k ∈ jn a b, k.d = m.d ∧ k.t = m.t) → ∀ m ∈ c, m.p = n.p → m.t = n.t → n.p = rt ∨ ∃ k ∈ jn a b, k.d = n.p ∧ k.t < n.t := fun c hc hin m hm h1 h2 => by
    rcases (well_set.1 hc).2 m hm with h3 | ⟨q, hq, h3, h4⟩
    · exact .inl (h1 ▸ h3)
    · obtain ⟨k, hk, h5, h6⟩ := hin q hq
      exact .inr ⟨k, hk, by rw [h5, h3, h1], by rw [h6, ← h2]; exact h4⟩
  have hagm : ∀ e u v, get a e = some u → get b e = some v → (jmg u v).2 = true := fun e u v hu hv => agree_iff.1 h u (get_some hu).1 v (get_some hv).1 ((get_some hu).2.trans (get_some hv).2.symm)
  have ina : ∀ m ∈ a, ∃ k ∈ jn a b, k.d = m.d ∧ k.t = m.t := fun m hm => by
    have hg := get_mem (Sd.dd hsa) hm
    cases hb2 : get b m.d with
    | none => exact ⟨m, (jn_mem hsa hsb h m).2 (by rw [hg, hb2]; rfl), rfl, rfl⟩
    | some v =>
      have hj := hagm _ _ _ hg hb2
      have he : (jmg m v).1.d = m.d ∧ (jmg m v).1.t = m.t := by rw [jmg_eq hj]; exact ⟨rfl, rfl⟩
      exact ⟨(jmg m v).1, (jn_mem hsa hsb h _).2 (by rw [he.1, hg, hb2]; rfl), he⟩
  have inb : ∀ m ∈ b, ∃ k ∈ jn a b, k.d = m.d ∧ k.t = m.t := fun m hm => by
    have hg := get_mem (Sd.dd hsb) hm
    cases ha2 : get a m.d with
    | none => exact ⟨m, (jn_mem hsa hsb h m).2 (by rw [hg, ha2]; rfl), rfl, rfl⟩
    | some v =>
      have hj := hagm _ _ _ ha2 hg
      have hj' := hj
      rw [jmg_ok, decide_eq_true_eq] at hj'
      have he : (jmg v m).1.d = m.d ∧ (jmg v m).1.t = m.t := by rw [jmg_eq hj]; exact ⟨hj'.1, hj'.2.2.1⟩
      exact ⟨(jmg v m).1, (jn_mem hsa hsb h _).2 (by rw [he.1, hg, ha2]; rfl), he⟩
  rcases comb_pt ((jn_mem hsa hsb h n).1 hn) (fun u v hu hv => hagm _ u v hu hv) with ⟨m, hm, h1, h2⟩ | ⟨m, hm, h1, h2⟩
  · exact pick a ha ina m (get_some hm).1 h1 h2
  · exact pick b hb inb m (get_some hm).1 h1 h2
theorem two_alive (ha : Ed s K p d l) (hb : Ed s K' p' d' l') (hne : d.r ≠ d'.r) {n : Nd} (hn : n ∈ jn (nextF s K p d l) (nextF s K' p' d' l')) (hs : ∀ m ∈ s, m.d.r ≠ n.d.r) : n.x ≠ 0 := by
  have hag := two_agree ha hb hne
  have hc := (jn_mem ha.next_sd hb.next_sd hag n).1 hn
  have fromA : ∀ {u : Nd}, get (nextF s K p d l) n.d = some u → u ∈ chainF d p (maxTime s + 1) l := fun {u} hu => by
    rcases (ha.next_mem u).1 (get_some hu).1 with h1 | h1
    · obtain ⟨x, hx, rfl⟩ := List.mem_map.1 h1
      have := (get_some hu).2
      rw [killK_d] at this
      exact absurd (congrArg Dot.r this) (hs x hx)
    · exact h1
  have fromB : ∀ {u : Nd}, get (nextF s K' p' d' l') n.d = some u → u ∈ chainF d' p' (maxTime s + 1) l' := fun {u} hu => by
    rcases (hb.next_mem u).1 (get_some hu).1 with h1 | h1
    · obtain ⟨x, hx, rfl⟩ := List.mem_map.1 h1
      have := (get_some hu).2
      rw [killK_d] at this
      exact absurd (congrArg Dot.r this) (hs x hx)
    · exact h1
  have ne : ∀ {q e : Dot} {t : Int} {r : List Int} {u : Nd}, (∀ x ∈ r, rvalid x = true) → u ∈ chainF e q t r → u.x ≠ 0 := fun {q e t r u} hr hu => by
    obtain ⟨i, hi, rfl⟩ := chainF_mem.1 hu
    have h1 := hr _ (gx_in hi)
    intro e0
    have e1 : gx r (i : Int) = 0 := e0
    rw [e1] at h1
    exact absurd h1 (by decide)
  cases hga : get (nextF s K p d l) n.d with
  | none =>
    rw [hga] at hc
    exact ne hb.runes (fromB (show get (nextF s K' p' d' l') n.d = some n from hc))
  | some u =>
    cases hgb : get (nextF s K' p' d' l') n.d with
    | none =>
      rw [hga, hgb] at hc
      have : u = n := Option.some.inj hc
      subst this
      exact ne ha.runes (fromA hga)
    | some v =>
      have h1 := chainN_r (fromA hga)
      have h2 := chainN_r (fromB hgb)
      exact absurd (h1.symm.trans ((congrArg Dot.r ((get_some hga).2.trans (get_some hgb).2.symm)).trans h2)) hne
end
end Go.R
