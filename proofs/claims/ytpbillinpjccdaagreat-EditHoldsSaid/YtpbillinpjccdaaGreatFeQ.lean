/- Contracts: killing, sets of dots. -/
import Derived.Test.YtpbillinpjccdaaGreatFdQ
import Derived.Test.YtpbillinpjccdaaGreatSoQ
import Derived.Test.YtpbillinpjccdaaGreatSlQ
namespace Go.Proofs.YtpbillinpjccdaaGreat.Fe
open Go.RowKit Go.J Go.R Go.Proofs.YtpbillinpjccdaaGreat.Fa Go.Proofs.YtpbillinpjccdaaGreat.Fb Go.Proofs.YtpbillinpjccdaaGreat.Fc Go.Proofs.YtpbillinpjccdaaGreat.Fd
set_option linter.unusedVariables false
set_option linter.unusedSimpArgs false
theorem follows : Tryz.prog.follows .mixedOrders = true := by kernel_rfl
theorem AG_39 : AG Tryz.prog 39 2 := ⟨Tryz.isAgg39, Tryz.sizeOf39⟩
theorem AG_42 : AG Tryz.prog 42 6 := ⟨Tryz.isAgg42, Tryz.sizeOf42⟩
theorem EN_156 : Enters Tryz.prog 156 := enters_of Tryz.func156 (by kernel_rfl) rfl
theorem EN_165 : Enters Tryz.prog 165 := enters_of Tryz.func165 (by kernel_rfl) rfl
theorem EN_175 : Enters Tryz.prog 175 := enters_of Tryz.func175 (by kernel_rfl) rfl
theorem EN_176 : Enters Tryz.prog 176 := enters_of Tryz.func176 (by kernel_rfl) rfl
theorem EN_177 : Enters Tryz.prog 177 := enters_of Tryz.func177 (by kernel_rfl) rfl
theorem EN_178 : Enters Tryz.prog 178 := enters_of Tryz.func178 (by kernel_rfl) rfl
theorem EN_179 : Enters Tryz.prog 179 := enters_of Tryz.func179 (by kernel_rfl) rfl
theorem EN_180 : Enters Tryz.prog 180 := enters_of Tryz.func180 (by kernel_rfl) rfl
theorem EN_186 : Enters Tryz.prog 186 := enters_of Tryz.func186 (by kernel_rfl) rfl
theorem EN_68 : Enters Tryz.prog 68 := enters_of Tryz.func68 (by kernel_rfl) rfl
theorem EQT_eql_39 {a b : Dot} : ∀ x y w, (do eqGuard .eql 39 x y (dv a) (dv b); binOp .eql 39 (dv a) (dv b) : Sem Value).run Tryz.prog w = .ok (.bool (decide (a = b))) w := fun x y w => by
  simp [go_sem]
  by_cases a.r = b.r <;> by_cases a.c = b.c <;> simp [Dot.eq_iff, *]
theorem ST_22 : ST Tryz.prog 22 42 6 := ⟨Tryz.underlying22, Tryz.sizeOf42⟩
theorem ST_25 : ST Tryz.prog 25 39 2 := ⟨Tryz.underlying25, Tryz.sizeOf39⟩
theorem ZT_39 : ZT Tryz.prog 39 (.agg #[.int .i64 0, .int .i64 0]) 2 16 := by unfold ZT; kernel_rfl
theorem ZT_42 : ZT Tryz.prog 42 (.agg #[.int .i64 0, .int .i64 0, .int .i64 0, .int .i64 0, .int .i64 0, .int .i32 0]) 6 48 := by unfold ZT; kernel_rfl
set_option maxRecDepth 20000 in
/-- redpencil/store.Kill -/
theorem killSF (l : List Nd) (A : Option Addr) (cap : Nat) (ds : List Dot) (A' : Option Addr) (cap' : Nat) (w : World) (hS : SlN w A l) (hl : l.length ≤ 1000000) (hD : SlD w A' ds) (hd : ds.length ≤ 1000000) : Ct Tryz.prog 119 #[.slice A l.length cap, .slice A' ds.length cap'] [] w (fun u hs => ∃ B c, u = .tuple #[.slice B (killR l ds).1.length c, .int .i64 (killR l ds).2] ∧ hs = [En.row B (killR l ds).1.length c 42 6 ((killR l ds).1.flatMap nc)]) := by
  refine Ct.intro Tryz.func119 rfl Tryz.ntmps119 rfl ?_
  refine WA.seq ?_
  refine WA.region ?_
  refine WR.val (G0 rfl) rfl rfl (.assign rfl rfl) ?_
  refine WR.val (G0 rfl) rfl rfl (.assign rfl rfl) ?_
  refine WR.nil ?_
  refine WA.seq ?_
  refine WA.seq ?_
  refine WA.region ?_
  refine WR.val (G0 rfl) rfl rfl (.move rfl rfl) ?_
  refine WR.dw (G0 rfl) rfl rfl (.callv (caps := []) rfl rfl rfl EN_68 (fun w hw => svalidF _ _ _ _ (hw.slf0 hS) (by first | omega | (simp; omega)))) ?_
  rintro _ _ ⟨rfl, rfl⟩
  refine WR.val (G0 rfl) rfl rfl (.not rfl rfl) ?_
  refine WR.val (G0 rfl) rfl rfl (.move rfl rfl) ?_
  refine WR.split (d := 14) rfl (fun h3 => ?_) (fun h3 => ?_)
  · have f4 := h3
    try simp only [decide_eq_true_eq, decide_eq_false_iff_not, Bool.not_eq_true', Bool.not_eq_false', Int.not_lt, Int.not_le] at f4
    refine WR.off (Gf rfl rfl rfl h3) rfl rfl ?_
    refine WR.off (Gf rfl rfl rfl h3) rfl rfl ?_
    refine WR.val (G0 rfl) rfl rfl (.pick_t rfl rfl h3 rfl) ?_
    refine WR.nil ?_
    refine WA.cond_t rfl rfl ?_
    refine WA.seq ?_
    refine WA.region ?_
    refine WR.val (G0 rfl) rfl rfl (.assign rfl rfl) ?_
    refine WR.val (G0 rfl) rfl rfl (.assign rfl rfl) ?_
    refine WR.nil ?_
    have hE : killR l ds = ([], 2) := if_pos (by simp_all)
    rw [hE]
    refine WA.nilrow 42 6 ?_
    exact WA.ret2 rfl rfl rfl (List.singleton_sublist.2 (List.mem_cons_self ..)) ⟨none, 0, rfl, rfl⟩
  · have f5 := h3
    try simp only [decide_eq_true_eq, decide_eq_false_iff_not, Bool.not_eq_true', Bool.not_eq_false', Int.not_lt, Int.not_le] at f5
    refine WR.val (Gt rfl rfl rfl h3) rfl rfl (.move rfl rfl) ?_
    refine WR.dw (Gt rfl rfl rfl h3) rfl rfl (.callv (caps := []) rfl rfl rfl EN_175 (fun w hw => conFD ds A' cap' 176 [] (fun d => !dvalid d) _ (hw.slf0 hD) hd EN_176 (fun x _ W _ => kill1F x W))) ?_
    rintro _ _ ⟨rfl, rfl⟩
    refine WR.val (G0 rfl) rfl rfl (.pick_f rfl rfl h3 rfl) ?_
    refine WR.nil ?_
    refine WA.cond rfl (fun h7 => ?_) (fun h7 => ?_)
    · have f8 := h7
      try simp only [decide_eq_true_eq, decide_eq_false_iff_not, Bool.not_eq_true', Bool.not_eq_false', Int.not_lt, Int.not_le] at f8
      refine WA.seq ?_
      refine WA.region ?_
      refine WR.val (G0 rfl) rfl rfl (.assign rfl rfl) ?_
      refine WR.val (G0 rfl) rfl rfl (.assign rfl rfl) ?_
      refine WR.nil ?_
      have hE : killR l ds = ([], 2) := if_pos (by simp_all)
      rw [hE]
      refine WA.nilrow 42 6 ?_
      exact WA.ret2 rfl rfl rfl (List.singleton_sublist.2 (List.mem_cons_self ..)) ⟨none, 0, rfl, rfl⟩
    · have f9 := h7
      try simp only [decide_eq_true_eq, decide_eq_false_iff_not, Bool.not_eq_true', Bool.not_eq_false', Int.not_lt, Int.not_le] at f9
      refine WA.skip ?_
      refine WA.seq ?_
      have hok : ¬ (storeOk l = false ∨ ds.any (fun d => !dvalid d) = true) := by simp_all
      have hso : storeOk l = true := by simpa using fun h => hok (.inl h)
      refine WA.region ?_
      refine WR.val (G0 rfl) rfl rfl (.move rfl rfl) ?_
      refine WR.dw (G0 rfl) rfl rfl (.call0 (caps := []) rfl rfl rfl EN_177 (fun w hw => cloneFN _ _ _ _ (hw.slf0 hS) (by first | omega | (simp; omega)))) ?_
      rintro _ _ ⟨_, ⟨v11, v12, rfl, rfl⟩, rfl⟩
      refine WR.val (G0 rfl) rfl rfl (.assign rfl rfl) ?_
      refine WR.nil ?_
      refine WA.seq ?_
      refine WA.seq ?_
      refine WA.region ?_
      refine WR.val (G0 rfl) rfl rfl (.move rfl rfl) ?_
      refine WR.val (G0 rfl) rfl rfl (.len rfl ST_25.1 rfl) ?_
      refine WR.val (G0 rfl) rfl rfl (.move rfl rfl) ?_
      refine WR.nil ?_
      refine WA.block ?_
      refine WA.loopK (γ := Nat × List Nd) [(20, _), (21, _)] [] (fun q => [(6, .slice v11 q.2.length v12), (22, .int .i64 (q.1 : Int))]) (fun q => [En.row v11 q.2.length v12 42 6 (q.2.flatMap nc)]) (fun q => q.1 ≤ ds.length ∧ q.2.map Nd.d = l.map Nd.d ∧ q.2.length = l.length ∧ killL q.2 (ds.drop q.1) = killL l ds) (fun q => ds.length - q.1) (0, l) (.cons rfl (.cons rfl (.nil _))) (.cons rfl (.cons rfl (.nil _))) (.refl _) ⟨by simp, rfl, rfl, rfl⟩ ?_
      intro q hk
      obtain ⟨hk, hmd, hml, hkl⟩ := hk
      have hsq : Sorted (q.2.map Nd.d) := hmd ▸ storeOk_sorted hso
      refine WA.seq ?_
      refine WA.region ?_
      refine WR.val (G0 rfl) rfl rfl (.lss rfl rfl rfl) ?_
      refine WR.nil ?_
      refine WA.seq ?_
      refine WA.cond rfl (fun h14 => ?_) (fun h14 => ?_)
      · have f15 := h14
        try simp only [decide_eq_true_eq, decide_eq_false_iff_not, Bool.not_eq_true', Bool.not_eq_false', Int.not_lt, Int.not_le] at f15
        refine WA.skip ?_
        refine WA.seq ?_
        refine WA.block ?_
        refine WA.seq ?_
        refine WA.region ?_
        refine WR.val (G0 rfl) rfl rfl (.ix rfl ST_25 rfl rfl (by omega) (by omega) (fun _ hw hn => (hw.slf0 hD).some_ hn)) ?_
        refine WR.val (G0 rfl) rfl rfl (.loadK (vs := [_, _]) rfl AG_39 rfl (fun _ hw => rdD (hw.slf0 hD) (by omega) (by omega))) ?_
        refine WR.dw (G0 rfl) rfl rfl (.alloc (vs := [_, _]) rfl ZT_39 rfl) ?_
        rintro _ _ ⟨b17, rfl, rfl⟩
        refine WR.dw0 (G0 rfl) rfl (.store (i := 0) rfl AG_39.2 rfl rfl [_, _] rfl rfl (by intro u hu; simp at hu; rcases hu with rfl | rfl <;> rfl) rfl rfl) ?_
        rintro _ _ ⟨rfl, rfl⟩
        refine WR.nil ?_
        refine WA.seq ?_
        refine WA.region ?_
        refine WR.val (G0 rfl) rfl rfl (.move rfl rfl) ?_
        refine WR.val (G0 rfl) rfl rfl (.loadK (vs := [_, _]) rfl AG_39 rfl (fun _ hw => hw.rd_blk (k := 2) 0 rfl rfl)) ?_
        refine WR.dw (G0 rfl) rfl rfl (.callv (caps := []) rfl rfl rfl EN_178 (fun w hw => findF _ _ _ _ _ (hw.slf_row 1 rfl) (by first | omega | (simp; omega)) (by assumption))) ?_
        rintro _ _ ⟨rfl, rfl⟩
        refine WR.val (G0 rfl) rfl rfl (.move rfl rfl) ?_
        refine WR.val (G0 rfl) rfl rfl (.extract (vs := [_, _]) rfl rfl rfl) ?_
        refine WR.val (G0 rfl) rfl rfl (.extract (vs := [_, _]) rfl rfl rfl) ?_
        refine WR.val (G0 rfl) rfl rfl (.assign rfl rfl) ?_
        refine WR.val (G0 rfl) rfl rfl (.assign rfl rfl) ?_
        refine WR.nil ?_
        refine WA.seq ?_
        refine WA.seq ?_
        refine WA.region ?_
        refine WR.val (G0 rfl) rfl rfl (.move rfl rfl) ?_
        refine WR.val (G0 rfl) rfl rfl (.not rfl rfl) ?_
        refine WR.nil ?_
        refine WA.cond rfl (fun h19 => ?_) (fun h19 => ?_)
        · have f20 := h19
          try simp only [decide_eq_true_eq, decide_eq_false_iff_not, Bool.not_eq_true', Bool.not_eq_false', Int.not_lt, Int.not_le] at f20
          refine WA.seq ?_
          refine WA.region ?_
          refine WR.val (G0 rfl) rfl rfl (.assign rfl rfl) ?_
          refine WR.val (G0 rfl) rfl rfl (.assign rfl rfl) ?_
          refine WR.nil ?_
          have hin : ¬ gx ds (q.1 : Int) ∈ q.2.map Nd.d := by simp_all
          have hE : killR l ds = ([], 9) := by rw [killR, if_neg hok, ← hkl, drop_gx ds (by omega), killL, if_neg hin]
          rw [hE]
          refine WA.nilrow 42 6 ?_
          exact WA.ret2 rfl rfl rfl (List.singleton_sublist.2 (List.mem_cons_self ..)) ⟨none, 0, rfl, rfl⟩
        · have f21 := h19
          try simp only [decide_eq_true_eq, decide_eq_false_iff_not, Bool.not_eq_true', Bool.not_eq_false', Int.not_lt, Int.not_le] at f21
          refine WA.skip ?_
          have hin : gx ds (q.1 : Int) ∈ q.2.map Nd.d := by simp_all
          have hfd := found_lbn hsq hin
          refine WA.region ?_
          refine WR.val (G0 rfl) rfl rfl (.move rfl rfl) ?_
          refine WR.val (G0 rfl) rfl rfl (.move rfl rfl) ?_
          refine WR.val (G0 rfl) rfl rfl (.move rfl rfl) ?_
          refine WR.val (G0 rfl) rfl rfl (.move rfl rfl) ?_
          refine WR.val (G0 rfl) rfl rfl (.ix rfl ST_22 rfl rfl (by omega) (by omega) (fun _ hw hn => (hw.slf_row 1 rfl).some_ hn)) ?_
          refine WR.val (G0 rfl) rfl rfl (.loadK (vs := [_, _, _, _, _, _]) rfl AG_42 rfl (fun _ hw => rdN (hw.slf_row 1 rfl) (by omega) (by omega))) ?_
          refine WR.dw (G0 rfl) rfl rfl (.callv (caps := []) rfl rfl rfl EN_165 (fun w hw => killF _ w)) ?_
          rintro _ _ ⟨rfl, rfl⟩
          refine WR.val (G0 rfl) rfl rfl (.ix rfl ST_22 rfl rfl (by omega) (by omega) (fun _ hw hn => (hw.slf_row 1 rfl).some_ hn)) ?_
          refine WR.dw0 (G0 rfl) rfl (.storeRow 1 rfl AG_42.2 rfl rfl (nc _) rfl rfl (one_nc _) rfl (by omega) (by decide)) ?_
          rintro _ _ ⟨rfl, rfl⟩
          refine WR.nil ?_
          refine WA.mark ?_
          refine WA.region ?_
          refine WR.val (G0 rfl) rfl rfl (.add rfl rfl rfl (by omega) (by omega)) ?_
          refine WR.val (G0 rfl) rfl rfl (.move rfl rfl) ?_
          refine WR.nil ?_
          have hkn : killL (killOne (gx ds (q.1 : Int)) q.2) (ds.drop (q.1 + 1)) = killL q.2 (ds.drop q.1) := by conv => rhs; rw [drop_gx ds (by omega), killL, if_pos hin]
          refine WA.roweq 1 rfl (killOne (gx ds (q.1 : Int)) q.2).length ((killOne (gx ds (q.1 : Int)) q.2).flatMap nc) (killOne_len _ _).symm (by rw [← set_killOne hsq hfd.1 hfd.2]; exact putL_flat (enc := nc) (k := 6) (fun _ => rfl) q.2 _ _ hfd.1) ?_
          exact WA.roundK (q.1 + 1, killOne (gx ds (q.1 : Int)) q.2) (.cons rfl (.cons rfl (.nil _))) (.cons (Eq.trans (b := some (.slice v11 q.2.length v12)) rfl (by rw [killOne_len])) (.cons rfl (.nil _))) (.cons _ (.refl _)) ⟨by dsimp only; omega, by dsimp only; rw [killOne_d]; exact hmd, by dsimp only; rw [killOne_len]; exact hml, hkn.trans hkl⟩ (by dsimp only; omega)
      · have f22 := h14
        try simp only [decide_eq_true_eq, decide_eq_false_iff_not, Bool.not_eq_true', Bool.not_eq_false', Int.not_lt, Int.not_le] at f22
        refine WA.exit rfl ?_
        refine WA.seq ?_
        refine WA.region ?_
        refine WR.val (G0 rfl) rfl rfl (.move rfl rfl) ?_
        refine WR.val (G0 rfl) rfl rfl (.assign rfl rfl) ?_
        refine WR.val (G0 rfl) rfl rfl (.assign rfl rfl) ?_
        refine WR.nil ?_
        have hE : killR l ds = (q.2, 0) := by rw [killR, if_neg hok, ← hkl, List.drop_of_length_le (by omega)]; rfl
        rw [hE]
        exact WA.ret2 rfl rfl rfl (.refl _) ⟨_, _, rfl, rfl⟩
theorem sortDF (l : List Dot) (A : Option Addr) (cap : Nat) (w : World) (hl : l.length ≤ 1000000) : Ct Tryz.prog 179 #[.slice A l.length cap, .func (.func 107) #[] #[]] [En.row A l.length cap 39 2 (l.flatMap dc)] w (fun u hs => u = .tuple #[] ∧ ∃ l' : List Dot, l'.Perm l ∧ l'.Pairwise (fun x y => ¬ dcmp y x < 0) ∧ hs = [En.row A l'.length cap 39 2 (l'.flatMap dc)]) :=
  sortCt Sl.laysortD 2 Tryz.isAgg39 Tryz.sizeOf39 dc (fun _ => rfl) one_dc dcmp swo_dcmp 107 (enters_of Tryz.func107 (by kernel_rfl) rfl) (fun x y W => dcmpF x y W) l A cap 39 hl w
set_option maxRecDepth 20000 in
/-- slices.Compact[[]redpencil/api.Dot,redpencil/api.Dot] -/
theorem compactSF (l : List Dot) (A : Option Addr) (cap : Nat) (w : World) (hl : l.length ≤ 1000000) (hs : Sorted l) : Ct Tryz.prog 180 #[.slice A l.length cap] [En.row A l.length cap 39 2 (l.flatMap dc)] w (fun u hs => u = .slice A l.length cap ∧ hs = [En.row A l.length cap 39 2 (l.flatMap dc)]) := by
  refine Ct.intro Tryz.func180 rfl Tryz.ntmps180 rfl ?_
  refine WA.seq ?_
  refine WA.region ?_
  refine WR.val (G0 rfl) rfl rfl (.assign rfl rfl) ?_
  refine WR.nil ?_
  refine WA.seq ?_
  refine WA.seq ?_
  refine WA.region ?_
  refine WR.val (G0 rfl) rfl rfl (.move rfl rfl) ?_
  refine WR.val (G0 rfl) rfl rfl (.len rfl ST_25.1 rfl) ?_
  refine WR.val (G0 rfl) rfl rfl (.lss rfl rfl rfl) ?_
  refine WR.nil ?_
  refine WA.cond rfl (fun h2 => ?_) (fun h2 => ?_)
  · have f3 := h2
    try simp only [decide_eq_true_eq, decide_eq_false_iff_not, Bool.not_eq_true', Bool.not_eq_false', Int.not_lt, Int.not_le] at f3
    refine WA.seq ?_
    refine WA.region ?_
    refine WR.val (G0 rfl) rfl rfl (.move rfl rfl) ?_
    refine WR.val (G0 rfl) rfl rfl (.assign rfl rfl) ?_
    refine WR.nil ?_
    exact WA.ret1 rfl rfl (.refl _) ⟨rfl, rfl⟩
  · have f4 := h2
    try simp only [decide_eq_true_eq, decide_eq_false_iff_not, Bool.not_eq_true', Bool.not_eq_false', Int.not_lt, Int.not_le] at f4
    refine WA.skip ?_
    refine WA.seq ?_
    refine WA.seq ?_
    refine WA.region ?_
    refine WR.val (G0 rfl) rfl rfl (.assign rfl rfl) ?_
    refine WR.nil ?_
    refine WA.block ?_
    refine WA.loopK (γ := Nat) [(0, _)] [_] (fun k => [(3, .int .i64 (k : Int))]) (fun k => []) (fun k => 1 ≤ k ∧ k ≤ l.length + 1) (fun k => l.length + 1 - k) 1 (.cons rfl (.nil _)) (.cons rfl (.nil _)) (.refl _) ⟨by omega, by omega⟩ ?_
    intro k hk
    obtain ⟨h1k, hk⟩ := hk
    refine WA.seq ?_
    refine WA.seq ?_
    refine WA.region ?_
    refine WR.val (G0 rfl) rfl rfl (.move rfl rfl) ?_
    refine WR.val (G0 rfl) rfl rfl (.move rfl rfl) ?_
    refine WR.val (G0 rfl) rfl rfl (.len rfl ST_25.1 rfl) ?_
    refine WR.val (G0 rfl) rfl rfl (.lss rfl rfl rfl) ?_
    refine WR.nil ?_
    refine WA.cond rfl (fun h6 => ?_) (fun h6 => ?_)
    · have f7 := h6
      try simp only [decide_eq_true_eq, decide_eq_false_iff_not, Bool.not_eq_true', Bool.not_eq_false', Int.not_lt, Int.not_le] at f7
      refine WA.skip ?_
      refine WA.seq ?_
      refine WA.block ?_
      refine WA.seq ?_
      refine WA.draws0 follows ?_
      refine WH.take 0 rfl (Pf_blind _ _ _ _ _) (by kernel_rfl) (by kernel_rfl) (by kernel_rfl) (.refl _) (G0 rfl) rfl rfl (.move rfl rfl) ?_
      refine WH.take 1 rfl (Pf_blind _ _ _ _ _) (by kernel_rfl) (by kernel_rfl) (by kernel_rfl) (.refl _) (G0 rfl) rfl rfl (.move rfl rfl) ?_
      refine WH.take 2 rfl (Pf_blind _ _ _ _ _) (by kernel_rfl) (by kernel_rfl) (by kernel_rfl) (.refl _) (G0 rfl) rfl rfl (.ix rfl ST_25 rfl rfl (by omega) (by omega) (fun _ hw hn => (hw.slf_row 0 rfl).some_ hn)) ?_
      refine WH.take 3 rfl (Pf_blind _ _ _ _ _) (by kernel_rfl) (by kernel_rfl) (by kernel_rfl) (.refl _) (G0 rfl) rfl rfl (.loadK (vs := [_, _]) rfl AG_39 rfl (fun _ hw => rdD (hw.slf_row 0 rfl) (by omega) (by omega))) ?_
      refine WH.take 4 rfl (Pf_blind _ _ _ _ _) (by kernel_rfl) (by kernel_rfl) (by kernel_rfl) (.refl _) (G0 rfl) rfl rfl (.move rfl rfl) ?_
      refine WH.take 5 rfl (Pf_blind _ _ _ _ _) (by kernel_rfl) (by kernel_rfl) (by kernel_rfl) (.refl _) (G0 rfl) rfl rfl (.move rfl rfl) ?_
      refine WH.take 6 rfl (Pf_blind _ _ _ _ _) (by kernel_rfl) (by kernel_rfl) (by kernel_rfl) (.refl _) (G0 rfl) rfl rfl (.sub rfl rfl rfl (by omega) (by omega)) ?_
      refine WH.take 7 rfl (Pf_blind _ _ _ _ _) (by kernel_rfl) (by kernel_rfl) (by kernel_rfl) (.refl _) (G0 rfl) rfl rfl (.ix rfl ST_25 rfl rfl (by omega) (by omega) (fun _ hw hn => (hw.slf_row 0 rfl).some_ hn)) ?_
      refine WH.take 8 rfl (Pf_blind _ _ _ _ _) (by kernel_rfl) (by kernel_rfl) (by kernel_rfl) (.refl _) (G0 rfl) rfl rfl (.loadK (vs := [_, _]) rfl AG_39 rfl (fun _ hw => rdD (hw.slf_row 0 rfl) (by omega) (by omega))) ?_
      refine WH.take 9 rfl (Pf_blind _ _ _ _ _) (by kernel_rfl) (by kernel_rfl) (by kernel_rfl) (.refl _) (G0 rfl) rfl rfl (.bin rfl rfl rfl EQT_eql_39) ?_
      refine WH.done (by kernel_rfl) ?_
      refine WA.cond rfl (fun h9 => ?_) (fun h9 => ?_)
      · have f10 := h9
        try simp only [decide_eq_true_eq, decide_eq_false_iff_not, Bool.not_eq_true', Bool.not_eq_false', Int.not_lt, Int.not_le] at f10
        refine WA.seq ?_
        exact absurd (sorted_gx hs (i := (k : Int) - 1) (j := (k : Int)) (by omega) (by omega) (by omega)) (by rw [show gx l ((k : Int)) = gx l ((k : Int) - 1) by assumption]; exact dlt_irrefl _)
      · have f11 := h9
        try simp only [decide_eq_true_eq, decide_eq_false_iff_not, Bool.not_eq_true', Bool.not_eq_false', Int.not_lt, Int.not_le] at f11
        refine WA.skip ?_
        refine WA.mark ?_
        refine WA.region ?_
        refine WR.val (G0 rfl) rfl rfl (.move rfl rfl) ?_
        refine WR.val (G0 rfl) rfl rfl (.add rfl rfl rfl (by omega) (by omega)) ?_
        refine WR.val (G0 rfl) rfl rfl (.assign rfl rfl) ?_
        refine WR.nil ?_
        exact WA.roundK (k + 1) (.cons rfl (.nil _)) (.cons rfl (.nil _)) (.refl _) ⟨by omega, by omega⟩ (by omega)
    · have f12 := h6
      try simp only [decide_eq_true_eq, decide_eq_false_iff_not, Bool.not_eq_true', Bool.not_eq_false', Int.not_lt, Int.not_le] at f12
      refine WA.exit rfl ?_
      refine WA.seq ?_
      refine WA.region ?_
      refine WR.val (G0 rfl) rfl rfl (.move rfl rfl) ?_
      refine WR.val (G0 rfl) rfl rfl (.assign rfl rfl) ?_
      refine WR.nil ?_
      exact WA.ret1 rfl rfl (.refl _) ⟨rfl, rfl⟩
set_option maxRecDepth 20000 in
/-- redpencil/dot.Set -/
theorem setDF (l : List Dot) (A : Option Addr) (cap : Nat) (w : World) (hS : SlD w A l) (hl : l.length ≤ 1000000) (hn : l.Nodup) : Ct Tryz.prog 120 #[.slice A l.length cap] [] w (fun u hs => ∃ B c, u = .slice B (dset l).length c ∧ hs = [En.row B (dset l).length c 39 2 ((dset l).flatMap dc)]) := by
  refine Ct.intro Tryz.func120 rfl Tryz.ntmps120 rfl ?_
  refine WA.seq ?_
  refine WA.region ?_
  refine WR.val (G0 rfl) rfl rfl (.assign rfl rfl) ?_
  refine WR.nil ?_
  refine WA.seq ?_
  refine WA.region ?_
  refine WR.val (G0 rfl) rfl rfl (.move rfl rfl) ?_
  refine WR.dw (G0 rfl) rfl rfl (.call0 (caps := []) rfl rfl rfl EN_156 (fun w hw => cloneFD _ _ _ _ (hw.slf0 hS) (by first | omega | (simp; omega)))) ?_
  rintro _ _ ⟨_, ⟨v2, v3, rfl, rfl⟩, rfl⟩
  refine WR.val (G0 rfl) rfl rfl (.assign rfl rfl) ?_
  refine WR.nil ?_
  refine WA.seq ?_
  refine WA.region ?_
  refine WR.val (G0 rfl) rfl rfl (.move rfl rfl) ?_
  refine WR.dw (G0 rfl) rfl rfl (.callo (caps := []) 0 rfl rfl rfl rfl EN_179 (fun w hw => sortDF _ _ _ _ (by first | omega | (simp; omega)))) ?_
  rintro _ _ ⟨_, ⟨_, v5, v6, v7, rfl⟩, rfl⟩
  obtain rfl := dset_eq v6 v7
  have hsd := dset_sorted hn
  have hln : l.length = (dset l).length := (dset_perm l).length_eq.symm
  rw [hln]
  refine WR.nil ?_
  refine WA.seq ?_
  refine WA.region ?_
  refine WR.val (G0 rfl) rfl rfl (.move rfl rfl) ?_
  refine WR.dw (G0 rfl) rfl rfl (.callo (caps := []) 0 rfl rfl rfl rfl EN_180 (fun w hw => compactSF _ _ _ _ (by first | omega | (simp; omega)) (by assumption))) ?_
  rintro _ _ ⟨_, ⟨rfl, rfl⟩, rfl⟩
  refine WR.val (G0 rfl) rfl rfl (.assign rfl rfl) ?_
  refine WR.nil ?_
  exact WA.ret1 rfl rfl (.refl _) ⟨_, _, rfl, rfl⟩
set_option maxRecDepth 20000 in
/-- slices.DeleteFunc[[]redpencil/api.Node,redpencil/api.Node] -/
theorem deleteF (l : List Nd) (A : Option Addr) (cap : Nat) (g : FuncId) (caps : List Value) (p : Nd → Bool) (w : World) (hl : l.length ≤ 1000000) (hg : Proofs.Enters Tryz.prog g) (hp : ∀ x W, Ct Tryz.prog g (nv x :: caps).toArray [] W (fun u hs => u = .bool (p x) ∧ hs = [])) : Ct Tryz.prog 206 #[.slice A l.length cap, .func (.func g) #[] caps.toArray] [En.row A l.length cap 42 6 (l.flatMap nc)] w (fun u hs => u = .slice A (l.filter (fun x => !p x)).length cap ∧ hs = [En.row A (l.filter (fun x => !p x)).length cap 42 6 ((l.filter (fun x => !p x)).flatMap nc)]) := by
  refine Ct.intro Tryz.func206 rfl Tryz.ntmps206 rfl ?_
  refine WA.seq ?_
  refine WA.region ?_
  refine WR.val (G0 rfl) rfl rfl (.assign rfl rfl) ?_
  refine WR.nil ?_
  refine WA.seq ?_
  refine WA.region ?_
  refine WR.val (G0 rfl) rfl rfl (.move rfl rfl) ?_
  refine WR.val (G0 rfl) rfl rfl (.move rfl rfl) ?_
  refine WR.dw (G0 rfl) rfl rfl (.callv (caps := []) rfl rfl rfl EN_186 (fun w hw => idxFN _ _ _ g caps p _ (hw.slf_row 0 rfl) (by first | omega | (simp; omega)) hg (fun x _ W _ => hp x W))) ?_
  rintro _ _ ⟨rfl, rfl⟩
  refine WR.val (G0 rfl) rfl rfl (.assign rfl rfl) ?_
  refine WR.nil ?_
  refine WA.seq ?_
  refine WA.seq ?_
  refine WA.region ?_
  refine WR.val (G0 rfl) rfl rfl (.move rfl rfl) ?_
  refine WR.val (G0 rfl) rfl rfl (.eql rfl rfl rfl) ?_
  refine WR.nil ?_
  refine WA.cond rfl (fun h2 => ?_) (fun h2 => ?_)
  · have f3 := h2
    try simp only [decide_eq_true_eq, decide_eq_false_iff_not, Bool.not_eq_true', Bool.not_eq_false', Int.not_lt, Int.not_le] at f3
    skip
    refine WA.seq ?_
    refine WA.region ?_
    refine WR.val (G0 rfl) rfl rfl (.move rfl rfl) ?_
    refine WR.val (G0 rfl) rfl rfl (.assign rfl rfl) ?_
    refine WR.nil ?_
    have hF : l.filter (fun x => !p x) = l := filter_none p (by have h1 := idx_any p l; cases h2 : l.any p; rfl; rw [h2] at h1; have := h1.2 rfl; omega)
    rw [hF]
    exact WA.ret1 rfl rfl (.refl _) ⟨rfl, rfl⟩
  · have f4 := h2
    try simp only [decide_eq_true_eq, decide_eq_false_iff_not, Bool.not_eq_true', Bool.not_eq_false', Int.not_lt, Int.not_le] at f4
    skip
    refine WA.skip ?_
    refine WA.seq ?_
    refine WA.seq ?_
    have h9 := (idx_bd p l).2
    have h0 : 0 ≤ idx p l := by have := (idx_bd p l).1; omega
    refine WA.region ?_
    refine WR.val (G0 rfl) rfl rfl (.move rfl rfl) ?_
    refine WR.val (G0 rfl) rfl rfl (.add rfl rfl rfl (by omega) (by omega)) ?_
    refine WR.val (G0 rfl) rfl rfl (.assign rfl rfl) ?_
    refine WR.nil ?_
    refine WA.block ?_
    refine WA.loopK (γ := Int × Int × List Nd) [(1, _), (4, _)] [] (fun q => [(0, .slice A l.length cap), (5, .int .i64 q.1), (6, .int .i64 q.2.1)]) (fun q => [En.row A l.length cap 42 6 (q.2.2.flatMap nc)]) (fun q => Del p l q.1 q.2.1 q.2.2) (fun q => (l.length - q.2.1).toNat) (idx p l, idx p l + 1, l) (.cons rfl (.cons rfl (.nil _))) (.cons rfl (.cons rfl (.cons rfl (.nil _)))) (.refl _) (Del.start h0) ?_
    intro q hd
    have hd1 := hd.lo
    have hd2 := hd.lt
    have hd3 := hd.hi
    have hd4 := hd.len
    refine WA.seq ?_
    refine WA.seq ?_
    refine WA.region ?_
    refine WR.val (G0 rfl) rfl rfl (.move rfl rfl) ?_
    refine WR.val (G0 rfl) rfl rfl (.move rfl rfl) ?_
    refine WR.val (G0 rfl) rfl rfl (.len rfl ST_22.1 rfl) ?_
    refine WR.val (G0 rfl) rfl rfl (.lss rfl rfl rfl) ?_
    refine WR.nil ?_
    refine WA.cond rfl (fun h6 => ?_) (fun h6 => ?_)
    · have f7 := h6
      try simp only [decide_eq_true_eq, decide_eq_false_iff_not, Bool.not_eq_true', Bool.not_eq_false', Int.not_lt, Int.not_le] at f7
      skip
      refine WA.skip ?_
      refine WA.seq ?_
      refine WA.block ?_
      refine WA.seq ?_
      refine WA.region ?_
      refine WR.val (G0 rfl) rfl rfl (.move rfl rfl) ?_
      refine WR.val (G0 rfl) rfl rfl (.move rfl rfl) ?_
      refine WR.val (G0 rfl) rfl rfl (.ix rfl ST_22 rfl rfl (by omega) (by omega) (fun _ hw hn => (hw.slf_row 0 rfl).some_ hn)) ?_
      refine WR.val (G0 rfl) rfl rfl (.loadK (vs := [_, _, _, _, _, _]) rfl AG_42 rfl (fun _ hw => rdN (SlF.cast' (hw.slf_row 0 rfl) hd.len.symm) (by have := hd.len; have := hd.lt; have := hd.lo; omega) (by have := hd.len; omega))) ?_
      refine WR.dw (G0 rfl) rfl rfl (.alloc (vs := [_, _, _, _, _, _]) rfl ZT_42 rfl) ?_
      rintro _ _ ⟨b9, rfl, rfl⟩
      refine WR.dw0 (G0 rfl) rfl (.store (i := 0) rfl AG_42.2 rfl rfl [_, _, _, _, _, _] rfl rfl (by intro u hu; simp at hu; rcases hu with rfl | rfl | rfl | rfl | rfl | rfl <;> rfl) rfl rfl) ?_
      rintro _ _ ⟨rfl, rfl⟩
      refine WR.nil ?_
      refine WA.seq ?_
      refine WA.region ?_
      refine WR.val (G0 rfl) rfl rfl (.move rfl rfl) ?_
      refine WR.val (G0 rfl) rfl rfl (.loadK (vs := [_, _, _, _, _, _]) rfl AG_42 rfl (fun _ hw => hw.rd_blk (k := 6) 0 rfl rfl)) ?_
      refine WR.dw (G0 rfl) rfl rfl (.callv (caps := caps) rfl rfl rfl hg (fun w hw => hp _ _)) ?_
      rintro _ _ ⟨rfl, rfl⟩
      refine WR.val (G0 rfl) rfl rfl (.not rfl rfl) ?_
      refine WR.nil ?_
      refine WA.cond rfl (fun h12 => ?_) (fun h12 => ?_)
      · have f13 := h12
        try simp only [decide_eq_true_eq, decide_eq_false_iff_not, Bool.not_eq_true', Bool.not_eq_false', Int.not_lt, Int.not_le] at f13
        skip
        refine WA.seq ?_
        refine WA.region ?_
        refine WR.val (G0 rfl) rfl rfl (.move rfl rfl) ?_
        refine WR.val (G0 rfl) rfl rfl (.move rfl rfl) ?_
        refine WR.val (G0 rfl) rfl rfl (.loadK (vs := [_, _, _, _, _, _]) rfl AG_42 rfl (fun _ hw => hw.rd_blk (k := 6) 0 rfl rfl)) ?_
        refine WR.val (G0 rfl) rfl rfl (.ix rfl ST_22 rfl rfl (by omega) (by omega) (fun _ hw hn => (hw.slf_row 1 rfl).some_ hn)) ?_
        refine WR.dw0 (G0 rfl) rfl (.storeRow 1 rfl AG_42.2 rfl rfl (nc _) rfl rfl (one_nc _) rfl (by omega) (by decide)) ?_
        rintro _ _ ⟨rfl, rfl⟩
        refine WR.nil ?_
        refine WA.region ?_
        refine WR.val (G0 rfl) rfl rfl (.move rfl rfl) ?_
        refine WR.val (G0 rfl) rfl rfl (.add rfl rfl rfl (by omega) (by omega)) ?_
        refine WR.val (G0 rfl) rfl rfl (.assign rfl rfl) ?_
        refine WR.nil ?_
        refine WA.mark ?_
        refine WA.region ?_
        refine WR.val (G0 rfl) rfl rfl (.move rfl rfl) ?_
        refine WR.val (G0 rfl) rfl rfl (.add rfl rfl rfl (by omega) (by omega)) ?_
        refine WR.val (G0 rfl) rfl rfl (.assign rfl rfl) ?_
        refine WR.nil ?_
        refine WA.roweq 1 rfl l.length ((q.2.2.set q.1.toNat (gx q.2.2 q.2.1)).flatMap nc) rfl (putL_flat (enc := nc) (k := 6) (fun _ => rfl) q.2.2 q.1.toNat _ (by omega)) ?_
        exact WA.roundK (q.1 + 1, q.2.1 + 1, q.2.2.set q.1.toNat (gx q.2.2 q.2.1)) (.cons rfl (.cons rfl (.nil _))) (.cons rfl (.cons rfl (.cons rfl (.nil _)))) (.cons _ (.refl _)) (hd.keep (by omega) (by simp_all)) (by dsimp only; omega)
      · have f14 := h12
        try simp only [decide_eq_true_eq, decide_eq_false_iff_not, Bool.not_eq_true', Bool.not_eq_false', Int.not_lt, Int.not_le] at f14
        skip
        refine WA.skip ?_
        refine WA.mark ?_
        refine WA.region ?_
        refine WR.val (G0 rfl) rfl rfl (.move rfl rfl) ?_
        refine WR.val (G0 rfl) rfl rfl (.add rfl rfl rfl (by omega) (by omega)) ?_
        refine WR.val (G0 rfl) rfl rfl (.assign rfl rfl) ?_
        refine WR.nil ?_
        exact WA.roundK (q.1, q.2.1 + 1, q.2.2) (.cons rfl (.cons rfl (.nil _))) (.cons rfl (.cons rfl (.cons rfl (.nil _)))) (.cons _ (.refl _)) (hd.skip (by omega) (by simp_all)) (by dsimp only; omega)
    · have f15 := h6
      try simp only [decide_eq_true_eq, decide_eq_false_iff_not, Bool.not_eq_true', Bool.not_eq_false', Int.not_lt, Int.not_le] at f15
      skip
      refine WA.exit rfl ?_
      refine WA.seq ?_
      refine WA.rowcap 0 rfl (fun hcap => ?_)
      refine WA.region ?_
      refine WR.val (G0 rfl) rfl rfl (.move rfl rfl) ?_
      refine WR.val (G0 rfl) rfl rfl (.move rfl rfl) ?_
      refine WR.val (G0 rfl) rfl rfl (.slice_l rfl ST_22 rfl rfl (by omega) (by omega)) ?_
      refine WR.dw0 (G0 rfl) rfl (.clearTail 0 rfl ST_22.1 ZT_42 rfl (List.all_eq_true.1 (by kernel_rfl)) rfl rfl (by omega)) ?_
      rintro _ _ ⟨_, ys16, ya17, yb18, rfl⟩
      refine WR.nil ?_
      refine WA.seq ?_
      refine WA.region ?_
      refine WR.val (G0 rfl) rfl rfl (.move rfl rfl) ?_
      refine WR.val (G0 rfl) rfl rfl (.move rfl rfl) ?_
      refine WR.val (G0 rfl) rfl rfl (.slice_h rfl ST_22 rfl rfl (by omega) (by omega)) ?_
      refine WR.val (G0 rfl) rfl rfl (.assign rfl rfl) ?_
      refine WR.nil ?_
      have hm := hd.len_done (by omega)
      refine WA.cutrow 0 q.1.toNat rfl (by omega) ?_
      refine WA.roweq 0 rfl (l.filter (fun x => !p x)).length ((l.filter (fun x => !p x)).flatMap nc) hm (by rw [yb18, flat_take (enc := nc) (k := 6) (fun _ => rfl), hd.done (by omega)]) ?_
      exact WA.ret1 rfl rfl (.refl _) ⟨by rw [hm], rfl⟩
end Go.Proofs.YtpbillinpjccdaaGreat.Fe
