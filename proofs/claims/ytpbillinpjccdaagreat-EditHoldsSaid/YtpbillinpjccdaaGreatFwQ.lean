/- Contracts: edits of a text. -/
import Derived.Test.YtpbillinpjccdaaGreatFqQ
import Derived.Test.YtpbillinpjccdaaGreatJiQ
import Derived.Test.YtpbillinpjccdaaGreatRpQ
namespace Go.Proofs.YtpbillinpjccdaaGreat.Fw
open Go.RowKit Go.J Go.R Go.Proofs.YtpbillinpjccdaaGreat.Fa Go.Proofs.YtpbillinpjccdaaGreat.Fb Go.Proofs.YtpbillinpjccdaaGreat.Fc Go.Proofs.YtpbillinpjccdaaGreat.Fd Go.Proofs.YtpbillinpjccdaaGreat.Fe Go.Proofs.YtpbillinpjccdaaGreat.Fg Go.Proofs.YtpbillinpjccdaaGreat.Fh Go.Proofs.YtpbillinpjccdaaGreat.Fi Go.Proofs.YtpbillinpjccdaaGreat.Fj Go.Proofs.YtpbillinpjccdaaGreat.Fk Go.Proofs.YtpbillinpjccdaaGreat.Fl Go.Proofs.YtpbillinpjccdaaGreat.Fm Go.Proofs.YtpbillinpjccdaaGreat.Fn Go.Proofs.YtpbillinpjccdaaGreat.Fo Go.Proofs.YtpbillinpjccdaaGreat.Fp Go.Proofs.YtpbillinpjccdaaGreat.Fq
set_option linter.unusedVariables false
set_option linter.unusedSimpArgs false
theorem follows : Tryz.prog.follows .mixedOrders = true := by kernel_rfl
theorem EN_132 : Enters Tryz.prog 132 := enters_of Tryz.func132 (by kernel_rfl) rfl
theorem EN_42 : Enters Tryz.prog 42 := enters_of Tryz.func42 (by kernel_rfl) rfl
theorem EN_47 : Enters Tryz.prog 47 := enters_of Tryz.func47 (by kernel_rfl) rfl
theorem EN_50 : Enters Tryz.prog 50 := enters_of Tryz.func50 (by kernel_rfl) rfl
theorem EN_53 : Enters Tryz.prog 53 := enters_of Tryz.func53 (by kernel_rfl) rfl
theorem EN_57 : Enters Tryz.prog 57 := enters_of Tryz.func57 (by kernel_rfl) rfl
theorem EN_58 : Enters Tryz.prog 58 := enters_of Tryz.func58 (by kernel_rfl) rfl
theorem EN_59 : Enters Tryz.prog 59 := enters_of Tryz.func59 (by kernel_rfl) rfl
theorem EN_60 : Enters Tryz.prog 60 := enters_of Tryz.func60 (by kernel_rfl) rfl
theorem EN_63 : Enters Tryz.prog 63 := enters_of Tryz.func63 (by kernel_rfl) rfl
theorem FA_88_0 : FA Tryz.prog 88 0 0 := fun ad w => by simp [Instr.fieldAt, run_underlying Tryz.underlying88, Instr.sureAddr, fieldPlace, Tryz.sizeOf5]
theorem FA_88_1 : FA Tryz.prog 88 1 1 := fun ad w => by simp [Instr.fieldAt, run_underlying Tryz.underlying88, Instr.sureAddr, fieldPlace, Tryz.sizeOf5]
theorem FA_88_2 : FA Tryz.prog 88 2 2 := fun ad w => by simp [Instr.fieldAt, run_underlying Tryz.underlying88, Instr.sureAddr, fieldPlace, Tryz.sizeOf63]
theorem NA_21 : NA Tryz.prog 21 := ⟨Tryz.isAgg21, Tryz.sizeOf21⟩
theorem NA_5 : NA Tryz.prog 5 := ⟨Tryz.isAgg5, Tryz.sizeOf5⟩
theorem NA_63 : NA Tryz.prog 63 := ⟨Tryz.isAgg63, Tryz.sizeOf63⟩
theorem ST_23 : ST Tryz.prog 23 42 6 := ⟨Tryz.underlying23, Tryz.sizeOf42⟩
theorem ST_63 : ST Tryz.prog 63 21 1 := ⟨Tryz.underlying63, Tryz.sizeOf21⟩
theorem jwellTF (l : List Nd) (A : Option Addr) (cap : Nat) (w : World) (hS : SlN w A l) (hl : l.length ≤ 800000) (hk : well l = true) : Ct Tryz.prog 63 #[.slice A l.length cap] [] w (fun u hs => u = .bool true ∧ hs = []) := by
  have h := jwellF l A cap w hS hl
  rwa [hk] at h
theorem jcut9F (l m : List Int) (i n : Nat) (A A' : Option Addr) (cap cap' : Nat) (w : World) (hS : SlR w A l) (hM : SlR w A' m) (hl : l.length ≤ 800000) (hm : m.length ≤ 800000) (hab : i + n ≤ l.length) (hc : l.length ≤ cap) : Ct Tryz.prog 132 #[.slice A l.length cap, .int .i64 (i : Int), .int .i64 (n : Int), .slice A' m.length cap'] [] w (fun u hs => ∃ B c, u = .slice B (cutR l i n m).length c ∧ hs = [En.row B (cutR l i n m).length c 21 1 ((cutR l i n m).flatMap rc)]) :=
  jcutF l m i n A A' cap cap' w hS hM hl hm (by omega) (by omega) (by omega) hc
set_option maxRecDepth 20000 in
/-- redpencil/redpencillaw15.right -/
theorem rightF (a b : Int) (l : List Int) (A : Option Addr) (cap : Nat) (w : World) (hR : SlR w A l) : Ct Tryz.prog 61 #[.agg #[.int .u8 a, .int .u8 b, .slice A l.length cap]] [] w (fun u hs => u = .bool (decide ((∀ x ∈ l, rvalid x = true) ∧ l.length ≤ 5)) ∧ hs = []) := by
  refine Ct.intro Tryz.func61 rfl Tryz.ntmps61 rfl ?_
  refine WA.seq ?_
  refine WA.region ?_
  refine WR.dw (G0 rfl) rfl rfl (.box (vs := [_, _, _]) rfl rfl rfl) ?_
  rintro _ _ ⟨b2, rfl, rfl⟩
  refine WR.val (G0 rfl) rfl rfl (.assign rfl rfl) ?_
  refine WR.nil ?_
  refine WA.seq ?_
  refine WA.seq ?_
  refine WA.region ?_
  refine WR.val (G0 rfl) rfl rfl (.assign rfl rfl) ?_
  refine WR.nil ?_
  refine WA.block ?_
  refine WA.loopK (γ := Nat) [(1, _)] [_] (fun k => [(3, .int .i64 (k : Int))]) (fun k => []) (fun k => k ≤ l.length ∧ k ≤ 6 ∧ ∀ j : Nat, j < k → rvalid (gx l (j : Int)) = true) (fun k => l.length - k) 0 (.cons rfl (.nil _)) (.cons rfl (.nil _)) (.refl _) ⟨by omega, by omega, fun _ h => absurd h (by omega)⟩ ?_
  intro k hk
  obtain ⟨hk, hk6, hd⟩ := hk
  refine WA.seq ?_
  refine WA.seq ?_
  refine WA.region ?_
  refine WR.val (G0 rfl) rfl rfl (.move rfl rfl) ?_
  refine WR.val (G0 rfl) rfl rfl (.fa rfl FA_88_2 rfl) ?_
  refine WR.val (G0 rfl) rfl rfl (.load1 rfl NA_63 rfl (fun _ hw => hw.rd_blk (k := 1) 0 rfl rfl)) ?_
  refine WR.val (G0 rfl) rfl rfl (.len rfl ST_63.1 rfl) ?_
  refine WR.val (G0 rfl) rfl rfl (.lss rfl rfl rfl) ?_
  refine WR.val (G0 rfl) rfl rfl (.move rfl rfl) ?_
  refine WR.split (d := 9) rfl (fun h4 => ?_) (fun h4 => ?_)
  · have f5 := h4
    try simp only [decide_eq_true_eq, decide_eq_false_iff_not, Bool.not_eq_true', Bool.not_eq_false', Int.not_lt, Int.not_le] at f5
    refine WR.val (Gt rfl rfl rfl h4) rfl rfl (.move rfl rfl) ?_
    refine WR.val (Gt rfl rfl rfl h4) rfl rfl (.lss rfl rfl rfl) ?_
    refine WR.val (G0 rfl) rfl rfl (.pick_t rfl rfl h4 rfl) ?_
    refine WR.nil ?_
    refine WA.cond rfl (fun h7 => ?_) (fun h7 => ?_)
    · have f8 := h7
      try simp only [decide_eq_true_eq, decide_eq_false_iff_not, Bool.not_eq_true', Bool.not_eq_false', Int.not_lt, Int.not_le] at f8
      refine WA.skip ?_
      refine WA.seq ?_
      refine WA.block ?_
      refine WA.seq ?_
      refine WA.region ?_
      refine WR.val (G0 rfl) rfl rfl (.fa rfl FA_88_2 rfl) ?_
      refine WR.val (G0 rfl) rfl rfl (.load1 rfl NA_63 rfl (fun _ hw => hw.rd_blk (k := 1) 0 rfl rfl)) ?_
      refine WR.val (G0 rfl) rfl rfl (.move rfl rfl) ?_
      refine WR.val (G0 rfl) rfl rfl (.ix rfl ST_63 rfl rfl (by omega) (by omega) (fun _ hw hn => (hw.slf0 hR).some_ hn)) ?_
      refine WR.val (G0 rfl) rfl rfl (.load1 rfl NA_21 rfl (fun _ hw => rdR (hw.slf0 hR) (by omega) (by omega))) ?_
      refine WR.dw (G0 rfl) rfl rfl (.callv (caps := []) rfl rfl rfl EN_59 (fun w hw => jisruneF _ w)) ?_
      rintro _ _ ⟨rfl, rfl⟩
      refine WR.val (G0 rfl) rfl rfl (.not rfl rfl) ?_
      refine WR.nil ?_
      refine WA.cond rfl (fun h11 => ?_) (fun h11 => ?_)
      · have f12 := h11
        try simp only [decide_eq_true_eq, decide_eq_false_iff_not, Bool.not_eq_true', Bool.not_eq_false', Int.not_lt, Int.not_le] at f12
        refine WA.seq ?_
        refine WA.region ?_
        refine WR.val (G0 rfl) rfl rfl (.assign rfl rfl) ?_
        refine WR.nil ?_
        exact WA.ret1 rfl rfl (List.nil_sublist _) ⟨congrArg Value.bool (decide_eq_false fun h => by have h9 := h.1 _ (gx_in (i := k) (by omega)); simp_all).symm, rfl⟩
      · have f13 := h11
        try simp only [decide_eq_true_eq, decide_eq_false_iff_not, Bool.not_eq_true', Bool.not_eq_false', Int.not_lt, Int.not_le] at f13
        refine WA.skip ?_
        refine WA.mark ?_
        refine WA.region ?_
        refine WR.val (G0 rfl) rfl rfl (.move rfl rfl) ?_
        refine WR.val (G0 rfl) rfl rfl (.add rfl rfl rfl (by omega) (by omega)) ?_
        refine WR.val (G0 rfl) rfl rfl (.assign rfl rfl) ?_
        refine WR.nil ?_
        exact WA.roundK (k + 1) (.cons rfl (.nil _)) (.cons rfl (.nil _)) (.refl _) ⟨by omega, by omega, lt_snoc hd (by simp_all)⟩ (by omega)
    · have f14 := h7
      try simp only [decide_eq_true_eq, decide_eq_false_iff_not, Bool.not_eq_true', Bool.not_eq_false', Int.not_lt, Int.not_le] at f14
      refine WA.exit rfl ?_
      refine WA.seq ?_
      refine WA.region ?_
      refine WR.val (G0 rfl) rfl rfl (.fa rfl FA_88_2 rfl) ?_
      refine WR.val (G0 rfl) rfl rfl (.load1 rfl NA_63 rfl (fun _ hw => hw.rd_blk (k := 1) 0 rfl rfl)) ?_
      refine WR.val (G0 rfl) rfl rfl (.len rfl ST_63.1 rfl) ?_
      refine WR.val (G0 rfl) rfl rfl (.leq rfl rfl rfl) ?_
      refine WR.val (G0 rfl) rfl rfl (.assign rfl rfl) ?_
      refine WR.nil ?_
      exact WA.ret1 rfl rfl (List.nil_sublist _) ⟨by congr 1; rw [Bool.eq_iff_iff]; simp only [decide_eq_true_eq]; exact ⟨fun h => ⟨all_of_gx hd (by omega), by omega⟩, fun h => by omega⟩, rfl⟩
  · have f16 := h4
    try simp only [decide_eq_true_eq, decide_eq_false_iff_not, Bool.not_eq_true', Bool.not_eq_false', Int.not_lt, Int.not_le] at f16
    refine WR.off (Gf rfl rfl rfl h4) rfl rfl ?_
    refine WR.off (Gf rfl rfl rfl h4) rfl rfl ?_
    refine WR.val (G0 rfl) rfl rfl (.pick_f rfl rfl h4 rfl) ?_
    refine WR.nil ?_
    refine WA.cond_f rfl rfl ?_
    refine WA.exit rfl ?_
    refine WA.seq ?_
    refine WA.region ?_
    refine WR.val (G0 rfl) rfl rfl (.fa rfl FA_88_2 rfl) ?_
    refine WR.val (G0 rfl) rfl rfl (.load1 rfl NA_63 rfl (fun _ hw => hw.rd_blk (k := 1) 0 rfl rfl)) ?_
    refine WR.val (G0 rfl) rfl rfl (.len rfl ST_63.1 rfl) ?_
    refine WR.val (G0 rfl) rfl rfl (.leq rfl rfl rfl) ?_
    refine WR.val (G0 rfl) rfl rfl (.assign rfl rfl) ?_
    refine WR.nil ?_
    exact WA.ret1 rfl rfl (List.nil_sublist _) ⟨by congr 1; rw [Bool.eq_iff_iff]; simp only [decide_eq_true_eq]; exact ⟨fun h => ⟨all_of_gx hd (by omega), by omega⟩, fun h => by omega⟩, rfl⟩
set_option maxRecDepth 20000 in
/-- redpencil/redpencillaw15.edits -/
theorem editsF (s : List Nd) (A : Option Addr) (cap : Nat) (w : World) (hS : SlN w A s) (hl : s.length ≤ 1000) (hc : s.length ≤ cap) (rep ctr a b : Int) (l : List Int) (A' : Option Addr) (cap' : Nat) (hR : SlR w A' l) (ha : 0 ≤ a) (ha2 : a ≤ 255) (hb : 0 ≤ b) (hb2 : b ≤ 255) (hE : EdOk s ⟨rep, ctr⟩ l) : Ct Tryz.prog 62 #[.slice A s.length cap, .int .i64 rep, .int .i64 ctr, .agg #[.int .u8 a, .int .u8 b, .slice A' l.length cap']] [] w (fun u hs => ∃ B' c' B c, u = .tuple #[.slice B (eX s a b ⟨rep, ctr⟩ l).length c, .slice B' (cutR (runesOf s) (eI s a) (eN s a b) l).length c', .int .i64 (ctr + (l.length : Int)), .bool true] ∧ hs = [En.row B' (cutR (runesOf s) (eI s a) (eN s a b) l).length c' 21 1 ((cutR (runesOf s) (eI s a) (eN s a b) l).flatMap rc), En.row B (eX s a b ⟨rep, ctr⟩ l).length c 42 6 ((eX s a b ⟨rep, ctr⟩ l).flatMap nc)]) := by
  have hok := well_store hE.well
  have hvl := visN_len hok
  have hrl := runesOf_len s
  have hei := eI_le (s := s) (a := a)
  have hen := eN_le (s := s) (a := a) (b := b)
  have hl5 := hE.len
  have hdv : 1 ≤ rep ∧ rep ≤ 64 ∧ 1 ≤ ctr ∧ ctr ≤ 4294967295 := by have := hE.dv; simpa [dvalid] using this
  have hhi : ctr + (l.length : Int) ≤ 4294967296 := hE.hi
  have hXl := hE.next_len (a := a) (b := b)
  have hXw := hE.next_well (a := a) (b := b)
  have hXv := visN_len (well_store hXw)
  have hXr := runesOf_len (eX s a b ⟨rep, ctr⟩ l)
  have hXt := hE.text (a := a) (b := b)
  have hDl : (eD s a b ⟨rep, ctr⟩ l).length ≤ s.length + l.length := by have h9 := replaceR_len s ⟨rep, ctr⟩ (eI s a) (eN s a b) l; rw [hE.replace hb2] at h9; exact h9
  have hEm : eN s a b = 0 → l = [] → eD s a b ⟨rep, ctr⟩ l = [] := EdOk.empty
  refine Ct.intro Tryz.func62 rfl Tryz.ntmps62 rfl ?_
  refine WA.seq ?_
  refine WA.region ?_
  refine WR.dw (G0 rfl) rfl rfl (.box (vs := [_, _, _]) rfl rfl rfl) ?_
  rintro _ _ ⟨b2, rfl, rfl⟩
  refine WR.val (G0 rfl) rfl rfl (.assign rfl rfl) ?_
  refine WR.val (G0 rfl) rfl rfl (.assign rfl rfl) ?_
  refine WR.val (G0 rfl) rfl rfl (.assign rfl rfl) ?_
  refine WR.val (G0 rfl) rfl rfl (.assign rfl rfl) ?_
  refine WR.nil ?_
  refine WA.seq ?_
  refine WA.region ?_
  refine WR.val (G0 rfl) rfl rfl (.move rfl rfl) ?_
  refine WR.dw (G0 rfl) rfl rfl (.call0 (caps := []) rfl rfl rfl EN_58 (fun w hw => jrunesF s _ _ _ (hw.slf0 hS) (by omega) hok)) ?_
  rintro _ _ ⟨_, ⟨v4, v5, rfl, rfl⟩, rfl⟩
  refine WR.val (G0 rfl) rfl rfl (.assign rfl rfl) ?_
  refine WR.nil ?_
  refine WA.seq ?_
  refine WA.region ?_
  refine WR.val (G0 rfl) rfl rfl (.fa rfl FA_88_0 rfl) ?_
  refine WR.val (G0 rfl) rfl rfl (.load1 rfl NA_5 rfl (fun _ hw => hw.rd_blk (k := 1) 1 rfl rfl)) ?_
  refine WR.val (G0 rfl) rfl rfl (.conv rfl (by rw [Tryz.underlying5]; rfl) Tryz.underlying3 rfl (wrap_i64 (by omega) (by omega))) ?_
  refine WR.val (G0 rfl) rfl rfl (.move rfl rfl) ?_
  refine WR.val (G0 rfl) rfl rfl (.len rfl ST_63.1 rfl) ?_
  refine WR.val (G0 rfl) rfl rfl (.add rfl rfl rfl (by omega) (by omega)) ?_
  refine WR.val (G0 rfl) rfl rfl (.rem rfl rfl rfl (by omega) (by omega)) ?_
  refine WR.val (G0 rfl) rfl rfl (.assign rfl rfl) ?_
  refine WR.nil ?_
  refine WA.seq ?_
  rw [eI_eq ha]
  refine WA.region ?_
  refine WR.val (G0 rfl) rfl rfl (.fa rfl FA_88_1 rfl) ?_
  refine WR.val (G0 rfl) rfl rfl (.load1 rfl NA_5 rfl (fun _ hw => hw.rd_blk (k := 1) 1 rfl rfl)) ?_
  refine WR.val (G0 rfl) rfl rfl (.conv rfl (by rw [Tryz.underlying5]; rfl) Tryz.underlying3 rfl (wrap_i64 (by omega) (by omega))) ?_
  refine WR.val (G0 rfl) rfl rfl (.move rfl rfl) ?_
  refine WR.val (G0 rfl) rfl rfl (.len rfl ST_63.1 rfl) ?_
  refine WR.val (G0 rfl) rfl rfl (.move rfl rfl) ?_
  refine WR.val (G0 rfl) rfl rfl (.sub rfl rfl rfl (by omega) (by omega)) ?_
  refine WR.val (G0 rfl) rfl rfl (.add rfl rfl rfl (by omega) (by omega)) ?_
  refine WR.val (G0 rfl) rfl rfl (.rem rfl rfl rfl (by omega) (by omega)) ?_
  refine WR.val (G0 rfl) rfl rfl (.assign rfl rfl) ?_
  refine WR.nil ?_
  refine WA.seq ?_
  rw [eN_eq hb]
  refine WA.region ?_
  refine WR.val (G0 rfl) rfl rfl (.assign rfl rfl) ?_
  refine WR.nil ?_
  refine WA.seq ?_
  refine WA.region ?_
  refine WR.val (G0 rfl) rfl rfl (.assign rfl rfl) ?_
  refine WR.nil ?_
  refine WA.seq ?_
  refine WA.block ?_
  refine WA.seq ?_
  refine WA.region ?_
  refine WR.val (G0 rfl) rfl rfl (.move rfl rfl) ?_
  refine WR.val (G0 rfl) rfl rfl (.eql rfl rfl rfl) ?_
  refine WR.val (G0 rfl) rfl rfl (.assign rfl rfl) ?_
  refine WR.nil ?_
  refine WA.cond rfl (fun h7 => ?_) (fun h7 => ?_)
  · have f8 := h7
    try simp only [decide_eq_true_eq, decide_eq_false_iff_not, Bool.not_eq_true', Bool.not_eq_false', Int.not_lt, Int.not_le] at f8
    refine WA.draws0 follows ?_
    refine WH.take 0 rfl (Pf_blind _ _ _ _ _) (by kernel_rfl) (by kernel_rfl) (by kernel_rfl) (.refl _) (G0 rfl) rfl rfl (.move rfl rfl) ?_
    refine WH.take 1 rfl (Pf_blind _ _ _ _ _) (by kernel_rfl) (by kernel_rfl) (by kernel_rfl) (.refl _) (G0 rfl) rfl rfl (.move rfl rfl) ?_
    refine WH.take 2 rfl (Pf_blind _ _ _ _ _) (by kernel_rfl) (by kernel_rfl) (by kernel_rfl) (.refl _) (G0 rfl) rfl rfl (.move rfl rfl) ?_
    refine WH.take 4 rfl (Pf_blind _ _ _ _ _) (by kernel_rfl) (by kernel_rfl) (by kernel_rfl) (.refl _) (G0 rfl) rfl rfl (.move rfl rfl) ?_
    refine WH.take 5 rfl (Pf_blind _ _ _ _ _) (by kernel_rfl) (by kernel_rfl) (by kernel_rfl) (.refl _) (G0 rfl) rfl rfl (.fa rfl FA_88_2 rfl) ?_
    refine WH.take 6 rfl (Pf_blind _ _ _ _ _) (by kernel_rfl) (by kernel_rfl) (by kernel_rfl) (.refl _) (G0 rfl) rfl rfl (.load1 rfl NA_63 rfl (fun _ hw => hw.rd_blk (k := 1) 1 rfl rfl)) ?_
    refine WH.dw 3 rfl (by kernel_rfl) (G0 rfl) rfl rfl (.callv (caps := []) rfl rfl rfl EN_60 (fun w hw => ldotF _ _ _)) ?_
    rintro _ _ ⟨rfl, rfl⟩
    refine ⟨(.refl _), ?_⟩
    refine WH.dw 7 rfl (by kernel_rfl) (G0 rfl) rfl rfl (.call0 (caps := []) rfl rfl rfl EN_42 (fun w hw => insertEF s _ _ _ (hw.slf0 hS) (by omega) ⟨rep, ctr⟩ (eI s a) l _ _ (hw.slf0 hR) (by omega))) ?_
    rintro _ _ ⟨_, ⟨v13, v14, rfl, rfl⟩, rfl⟩
    refine ⟨(.cons _ (.refl _)), ?_⟩
    refine WH.take 8 rfl (Pf_blind _ _ _ _ _) (by kernel_rfl) (by kernel_rfl) (by kernel_rfl) (.cons _ (.refl _)) (G0 rfl) rfl rfl (.move rfl rfl) ?_
    refine WH.take 9 rfl (Pf_blind _ _ _ _ _) (by kernel_rfl) (by kernel_rfl) (by kernel_rfl) (.cons _ (.refl _)) (G0 rfl) rfl rfl (.extract (vs := [_, _]) rfl rfl rfl) ?_
    refine WH.take 10 rfl (Pf_blind _ _ _ _ _) (by kernel_rfl) (by kernel_rfl) (by kernel_rfl) (.cons _ (.refl _)) (G0 rfl) rfl rfl (.extract (vs := [_, _]) rfl rfl rfl) ?_
    refine WH.take 11 rfl (Pf_blind _ _ _ _ _) (by kernel_rfl) (by kernel_rfl) (by kernel_rfl) (.cons _ (.refl _)) (G0 rfl) rfl rfl (.assign rfl rfl) ?_
    refine WH.take 12 rfl (Pf_blind _ _ _ _ _) (by kernel_rfl) (by kernel_rfl) (by kernel_rfl) (.cons _ (.refl _)) (G0 rfl) rfl rfl (.assign rfl rfl) ?_
    refine WH.done (by kernel_rfl) ?_
    refine WA.mark ?_
    refine WA.seq ?_
    refine WA.seq ?_
    rw [hE.insert hb2 (by omega)]
    refine WA.region ?_
    refine WR.val (G0 rfl) rfl rfl (.move rfl rfl) ?_
    refine WR.val (G0 rfl) rfl rfl (.neq rfl rfl rfl) ?_
    refine WR.val (G0 rfl) rfl rfl (.move rfl rfl) ?_
    refine WR.val (Gt rfl rfl rfl (by simp)) rfl rfl (.move rfl rfl) ?_
    refine WR.val (Gt rfl rfl rfl (by simp)) rfl rfl (.eql rfl rfl rfl) ?_
    refine WR.val (Gt rfl rfl rfl (by simp)) rfl rfl (.move rfl rfl) ?_
    refine WR.val (Gt rfl rfl rfl (by simp; omega)) rfl rfl (.fa rfl FA_88_2 rfl) ?_
    refine WR.val (Gt rfl rfl rfl (by simp; omega)) rfl rfl (.load1 rfl NA_63 rfl (fun _ hw => hw.rd_blk (k := 1) 2 rfl rfl)) ?_
    refine WR.val (Gt rfl rfl rfl (by simp; omega)) rfl rfl (.len rfl ST_63.1 rfl) ?_
    refine WR.val (Gt rfl rfl rfl (by simp; omega)) rfl rfl (.eql rfl rfl rfl) ?_
    refine WR.val (Gt rfl rfl rfl (by simp)) rfl rfl (.pick_t rfl rfl (by simp; omega) rfl) ?_
    refine WR.val (Gt rfl rfl rfl (by simp)) rfl rfl (.move rfl rfl) ?_
    refine WR.split (d := 87) rfl (fun h18 => ?_) (fun h18 => ?_)
    · have f19 := h18
      try simp only [decide_eq_true_eq, decide_eq_false_iff_not, Bool.not_eq_true', Bool.not_eq_false', Int.not_lt, Int.not_le] at f19
      refine WR.val (Gt rfl rfl rfl h18) rfl rfl (.move rfl rfl) ?_
      refine WR.val (Gt rfl rfl rfl h18) rfl rfl (.len rfl ST_23.1 rfl) ?_
      refine WR.val (Gt rfl rfl rfl h18) rfl rfl (.neq rfl rfl rfl) ?_
      refine WR.val (Gt rfl rfl rfl (by simp)) rfl rfl (.pick_t rfl rfl h18 rfl) ?_
      refine WR.val (G0 rfl) rfl rfl (.pick_f rfl rfl (by simp) rfl) ?_
      refine WR.nil ?_
      refine WA.cond_f rfl (by rw [hEm (by omega) (List.length_eq_zero_iff.1 (by omega))]; simp) ?_
      refine WA.skip ?_
      refine WA.seq ?_
      refine WA.rowcap 0 rfl (fun hcap => ?_)
      refine WA.region ?_
      refine WR.val (G0 rfl) rfl rfl (.move rfl rfl) ?_
      refine WR.val (G0 rfl) rfl rfl (.move rfl rfl) ?_
      refine WR.dw (G0 rfl) rfl rfl (.call0 (caps := []) rfl rfl rfl EN_53 (fun w hw => applyEF s _ _ _ (hw.slf0 hS) (by omega) (eD s a b ⟨rep, ctr⟩ l) _ _ (hw.slf_row 0 rfl) (by omega) hc hcap.1)) ?_
      rintro _ _ ⟨_, ⟨v23, v24, v25, v26, rfl, rfl⟩, rfl⟩
      refine WR.val (G0 rfl) rfl rfl (.move rfl rfl) ?_
      refine WR.val (G0 rfl) rfl rfl (.extract (vs := [_, _, _]) rfl rfl rfl) ?_
      refine WR.val (G0 rfl) rfl rfl (.extract (vs := [_, _, _]) rfl rfl rfl) ?_
      refine WR.val (G0 rfl) rfl rfl (.extract (vs := [_, _, _]) rfl rfl rfl) ?_
      refine WR.val (G0 rfl) rfl rfl (.assign rfl rfl) ?_
      refine WR.val (G0 rfl) rfl rfl (.assign rfl rfl) ?_
      refine WR.val (G0 rfl) rfl rfl (.assign rfl rfl) ?_
      refine WR.nil ?_
      refine WA.seq ?_
      rw [hE.apply]
      refine WA.rowcap 3 rfl (fun hcapo => ?_)
      refine WA.region ?_
      refine WR.val (G0 rfl) rfl rfl (.move rfl rfl) ?_
      refine WR.val (G0 rfl) rfl rfl (.move rfl rfl) ?_
      refine WR.val (G0 rfl) rfl rfl (.move rfl rfl) ?_
      refine WR.val (G0 rfl) rfl rfl (.fa rfl FA_88_2 rfl) ?_
      refine WR.val (G0 rfl) rfl rfl (.load1 rfl NA_63 rfl (fun _ hw => hw.rd_blk (k := 1) 4 rfl rfl)) ?_
      refine WR.dw (G0 rfl) rfl rfl (.call0 (caps := []) rfl rfl rfl EN_132 (fun w hw => jcut9F (runesOf s) l (eI s a) (eN s a b) _ _ _ _ _ (hw.slf_row 3 rfl) (hw.slf0 hR) (by omega) (by omega) (by omega) hcapo.1)) ?_
      rintro _ _ ⟨_, ⟨v28, v29, rfl, rfl⟩, rfl⟩
      refine WR.val (G0 rfl) rfl rfl (.assign rfl rfl) ?_
      refine WR.nil ?_
      refine WA.seq ?_
      refine WA.seq ?_
      refine WA.region ?_
      refine WR.val (G0 rfl) rfl rfl (.move rfl rfl) ?_
      refine WR.val (G0 rfl) rfl rfl (.neq rfl rfl rfl) ?_
      refine WR.val (G0 rfl) rfl rfl (.move rfl rfl) ?_
      refine WR.val (Gt rfl rfl rfl (by simp)) rfl rfl (.move rfl rfl) ?_
      refine WR.val (Gt rfl rfl rfl (by simp)) rfl rfl (.move rfl rfl) ?_
      refine WR.dw (Gt rfl rfl rfl (by simp)) rfl rfl (.callv (caps := []) rfl rfl rfl EN_57 (fun w hw => jsameRTF (runesOf (eX s a b ⟨rep, ctr⟩ l)) (cutR (runesOf s) (eI s a) (eN s a b) l) _ _ _ _ _ (hw.slf_row 2 rfl) (hw.slf_row 0 rfl) (by omega) hXt)) ?_
      rintro _ _ ⟨rfl, rfl⟩
      refine WR.val (Gt rfl rfl rfl (by simp)) rfl rfl (.not rfl rfl) ?_
      refine WR.val (G0 rfl) rfl rfl (.pick_f rfl rfl (by simp) rfl) ?_
      refine WR.val (G0 rfl) rfl rfl (.move rfl rfl) ?_
      refine WR.val (Gt rfl rfl rfl rfl) rfl rfl (.move rfl rfl) ?_
      refine WR.dw (Gt rfl rfl rfl rfl) rfl rfl (.call0 (caps := []) rfl rfl rfl EN_58 (fun w hw => jrunesF (eX s a b ⟨rep, ctr⟩ l) _ _ _ (hw.slf_row 1 rfl) (by omega) (well_store hXw))) ?_
      rintro _ _ ⟨_, ⟨v33, v34, rfl, rfl⟩, rfl⟩
      refine WR.val (Gt rfl rfl rfl rfl) rfl rfl (.move rfl rfl) ?_
      refine WR.dw (Gt rfl rfl rfl rfl) rfl rfl (.callv (caps := []) rfl rfl rfl EN_57 (fun w hw => jsameRTF (runesOf (eX s a b ⟨rep, ctr⟩ l)) (cutR (runesOf s) (eI s a) (eN s a b) l) _ _ _ _ _ (hw.slf_row 0 rfl) (hw.slf_row 1 rfl) (by omega) hXt)) ?_
      rintro _ _ ⟨rfl, rfl⟩
      refine WR.val (Gt rfl rfl rfl rfl) rfl rfl (.not rfl rfl) ?_
      refine WR.val (G0 rfl) rfl rfl (.pick_f rfl rfl rfl rfl) ?_
      refine WR.val (G0 rfl) rfl rfl (.move rfl rfl) ?_
      refine WR.val (Gt rfl rfl rfl rfl) rfl rfl (.move rfl rfl) ?_
      refine WR.dw (Gt rfl rfl rfl rfl) rfl rfl (.callv (caps := []) rfl rfl rfl EN_63 (fun w hw => jwellTF (eX s a b ⟨rep, ctr⟩ l) _ _ _ (hw.slf_row 2 rfl) (by omega) hXw)) ?_
      rintro _ _ ⟨rfl, rfl⟩
      refine WR.val (Gt rfl rfl rfl rfl) rfl rfl (.not rfl rfl) ?_
      refine WR.val (G0 rfl) rfl rfl (.pick_f rfl rfl rfl rfl) ?_
      refine WR.nil ?_
      refine WA.cond_f rfl rfl ?_
      refine WA.skip ?_
      refine WA.seq ?_
      refine WA.draws0 follows ?_
      refine WH.take 0 rfl (Pf_blind _ _ _ _ _) (by kernel_rfl) (by kernel_rfl) (by kernel_rfl) (.refl _) (G0 rfl) rfl rfl (.move rfl rfl) ?_
      refine WH.take 1 rfl (Pf_blind _ _ _ _ _) (by kernel_rfl) (by kernel_rfl) (by kernel_rfl) (.refl _) (G0 rfl) rfl rfl (.move rfl rfl) ?_
      refine WH.take 2 rfl (Pf_blind _ _ _ _ _) (by kernel_rfl) (by kernel_rfl) (by kernel_rfl) (.refl _) (G0 rfl) rfl rfl (.move rfl rfl) ?_
      refine WH.take 3 rfl (Pf_blind _ _ _ _ _) (by kernel_rfl) (by kernel_rfl) (by kernel_rfl) (.refl _) (G0 rfl) rfl rfl (.fa rfl FA_88_2 rfl) ?_
      refine WH.take 4 rfl (Pf_blind _ _ _ _ _) (by kernel_rfl) (by kernel_rfl) (by kernel_rfl) (.refl _) (G0 rfl) rfl rfl (.load1 rfl NA_63 rfl (fun _ hw => hw.rd_blk (k := 1) 6 rfl rfl)) ?_
      refine WH.take 5 rfl (Pf_blind _ _ _ _ _) (by kernel_rfl) (by kernel_rfl) (by kernel_rfl) (.refl _) (G0 rfl) rfl rfl (.len rfl ST_63.1 rfl) ?_
      refine WH.take 6 rfl (Pf_blind _ _ _ _ _) (by kernel_rfl) (by kernel_rfl) (by kernel_rfl) (.refl _) (G0 rfl) rfl rfl (.add rfl rfl rfl (by omega) (by omega)) ?_
      refine WH.take 7 rfl (Pf_blind _ _ _ _ _) (by kernel_rfl) (by kernel_rfl) (by kernel_rfl) (.refl _) (G0 rfl) rfl rfl (.assign rfl rfl) ?_
      refine WH.take 8 rfl (Pf_blind _ _ _ _ _) (by kernel_rfl) (by kernel_rfl) (by kernel_rfl) (.refl _) (G0 rfl) rfl rfl (.assign rfl rfl) ?_
      refine WH.take 9 rfl (Pf_blind _ _ _ _ _) (by kernel_rfl) (by kernel_rfl) (by kernel_rfl) (.refl _) (G0 rfl) rfl rfl (.assign rfl rfl) ?_
      refine WH.take 10 rfl (Pf_blind _ _ _ _ _) (by kernel_rfl) (by kernel_rfl) (by kernel_rfl) (.refl _) (G0 rfl) rfl rfl (.assign rfl rfl) ?_
      refine WH.done (by kernel_rfl) ?_
      exact WA.ret4 rfl rfl rfl rfl rfl (.cons _ (.cons_cons _ (.cons_cons _ (.cons _ (.cons _ (.cons _ (.cons _ .slnil))))))) ⟨_, _, _, _, rfl, rfl⟩
    · have f37 := h18
      try simp only [decide_eq_true_eq, decide_eq_false_iff_not, Bool.not_eq_true', Bool.not_eq_false', Int.not_lt, Int.not_le] at f37
      refine WR.off (Gf rfl rfl rfl h18) rfl rfl ?_
      refine WR.off (Gf rfl rfl rfl h18) rfl rfl ?_
      refine WR.off (Gf rfl rfl rfl h18) rfl rfl ?_
      refine WR.val (Gt rfl rfl rfl (by simp)) rfl rfl (.pick_f rfl rfl h18 rfl) ?_
      refine WR.val (G0 rfl) rfl rfl (.pick_f rfl rfl (by simp) rfl) ?_
      refine WR.nil ?_
      refine WA.cond_f rfl rfl ?_
      refine WA.skip ?_
      refine WA.seq ?_
      refine WA.rowcap 0 rfl (fun hcap => ?_)
      refine WA.region ?_
      refine WR.val (G0 rfl) rfl rfl (.move rfl rfl) ?_
      refine WR.val (G0 rfl) rfl rfl (.move rfl rfl) ?_
      refine WR.dw (G0 rfl) rfl rfl (.call0 (caps := []) rfl rfl rfl EN_53 (fun w hw => applyEF s _ _ _ (hw.slf0 hS) (by omega) (eD s a b ⟨rep, ctr⟩ l) _ _ (hw.slf_row 0 rfl) (by omega) hc hcap.1)) ?_
      rintro _ _ ⟨_, ⟨v40, v41, v42, v43, rfl, rfl⟩, rfl⟩
      refine WR.val (G0 rfl) rfl rfl (.move rfl rfl) ?_
      refine WR.val (G0 rfl) rfl rfl (.extract (vs := [_, _, _]) rfl rfl rfl) ?_
      refine WR.val (G0 rfl) rfl rfl (.extract (vs := [_, _, _]) rfl rfl rfl) ?_
      refine WR.val (G0 rfl) rfl rfl (.extract (vs := [_, _, _]) rfl rfl rfl) ?_
      refine WR.val (G0 rfl) rfl rfl (.assign rfl rfl) ?_
      refine WR.val (G0 rfl) rfl rfl (.assign rfl rfl) ?_
      refine WR.val (G0 rfl) rfl rfl (.assign rfl rfl) ?_
      refine WR.nil ?_
      refine WA.seq ?_
      rw [hE.apply]
      refine WA.rowcap 3 rfl (fun hcapo => ?_)
      refine WA.region ?_
      refine WR.val (G0 rfl) rfl rfl (.move rfl rfl) ?_
      refine WR.val (G0 rfl) rfl rfl (.move rfl rfl) ?_
      refine WR.val (G0 rfl) rfl rfl (.move rfl rfl) ?_
      refine WR.val (G0 rfl) rfl rfl (.fa rfl FA_88_2 rfl) ?_
      refine WR.val (G0 rfl) rfl rfl (.load1 rfl NA_63 rfl (fun _ hw => hw.rd_blk (k := 1) 4 rfl rfl)) ?_
      refine WR.dw (G0 rfl) rfl rfl (.call0 (caps := []) rfl rfl rfl EN_132 (fun w hw => jcut9F (runesOf s) l (eI s a) (eN s a b) _ _ _ _ _ (hw.slf_row 3 rfl) (hw.slf0 hR) (by omega) (by omega) (by omega) hcapo.1)) ?_
      rintro _ _ ⟨_, ⟨v45, v46, rfl, rfl⟩, rfl⟩
      refine WR.val (G0 rfl) rfl rfl (.assign rfl rfl) ?_
      refine WR.nil ?_
      refine WA.seq ?_
      refine WA.seq ?_
      refine WA.region ?_
      refine WR.val (G0 rfl) rfl rfl (.move rfl rfl) ?_
      refine WR.val (G0 rfl) rfl rfl (.neq rfl rfl rfl) ?_
      refine WR.val (G0 rfl) rfl rfl (.move rfl rfl) ?_
      refine WR.val (Gt rfl rfl rfl (by simp)) rfl rfl (.move rfl rfl) ?_
      refine WR.val (Gt rfl rfl rfl (by simp)) rfl rfl (.move rfl rfl) ?_
      refine WR.dw (Gt rfl rfl rfl (by simp)) rfl rfl (.callv (caps := []) rfl rfl rfl EN_57 (fun w hw => jsameRTF (runesOf (eX s a b ⟨rep, ctr⟩ l)) (cutR (runesOf s) (eI s a) (eN s a b) l) _ _ _ _ _ (hw.slf_row 2 rfl) (hw.slf_row 0 rfl) (by omega) hXt)) ?_
      rintro _ _ ⟨rfl, rfl⟩
      refine WR.val (Gt rfl rfl rfl (by simp)) rfl rfl (.not rfl rfl) ?_
      refine WR.val (G0 rfl) rfl rfl (.pick_f rfl rfl (by simp) rfl) ?_
      refine WR.val (G0 rfl) rfl rfl (.move rfl rfl) ?_
      refine WR.val (Gt rfl rfl rfl rfl) rfl rfl (.move rfl rfl) ?_
      refine WR.dw (Gt rfl rfl rfl rfl) rfl rfl (.call0 (caps := []) rfl rfl rfl EN_58 (fun w hw => jrunesF (eX s a b ⟨rep, ctr⟩ l) _ _ _ (hw.slf_row 1 rfl) (by omega) (well_store hXw))) ?_
      rintro _ _ ⟨_, ⟨v50, v51, rfl, rfl⟩, rfl⟩
      refine WR.val (Gt rfl rfl rfl rfl) rfl rfl (.move rfl rfl) ?_
      refine WR.dw (Gt rfl rfl rfl rfl) rfl rfl (.callv (caps := []) rfl rfl rfl EN_57 (fun w hw => jsameRTF (runesOf (eX s a b ⟨rep, ctr⟩ l)) (cutR (runesOf s) (eI s a) (eN s a b) l) _ _ _ _ _ (hw.slf_row 0 rfl) (hw.slf_row 1 rfl) (by omega) hXt)) ?_
      rintro _ _ ⟨rfl, rfl⟩
      refine WR.val (Gt rfl rfl rfl rfl) rfl rfl (.not rfl rfl) ?_
      refine WR.val (G0 rfl) rfl rfl (.pick_f rfl rfl rfl rfl) ?_
      refine WR.val (G0 rfl) rfl rfl (.move rfl rfl) ?_
      refine WR.val (Gt rfl rfl rfl rfl) rfl rfl (.move rfl rfl) ?_
      refine WR.dw (Gt rfl rfl rfl rfl) rfl rfl (.callv (caps := []) rfl rfl rfl EN_63 (fun w hw => jwellTF (eX s a b ⟨rep, ctr⟩ l) _ _ _ (hw.slf_row 2 rfl) (by omega) hXw)) ?_
      rintro _ _ ⟨rfl, rfl⟩
      refine WR.val (Gt rfl rfl rfl rfl) rfl rfl (.not rfl rfl) ?_
      refine WR.val (G0 rfl) rfl rfl (.pick_f rfl rfl rfl rfl) ?_
      refine WR.nil ?_
      refine WA.cond_f rfl rfl ?_
      refine WA.skip ?_
      refine WA.seq ?_
      refine WA.draws0 follows ?_
      refine WH.take 0 rfl (Pf_blind _ _ _ _ _) (by kernel_rfl) (by kernel_rfl) (by kernel_rfl) (.refl _) (G0 rfl) rfl rfl (.move rfl rfl) ?_
      refine WH.take 1 rfl (Pf_blind _ _ _ _ _) (by kernel_rfl) (by kernel_rfl) (by kernel_rfl) (.refl _) (G0 rfl) rfl rfl (.move rfl rfl) ?_
      refine WH.take 2 rfl (Pf_blind _ _ _ _ _) (by kernel_rfl) (by kernel_rfl) (by kernel_rfl) (.refl _) (G0 rfl) rfl rfl (.move rfl rfl) ?_
      refine WH.take 3 rfl (Pf_blind _ _ _ _ _) (by kernel_rfl) (by kernel_rfl) (by kernel_rfl) (.refl _) (G0 rfl) rfl rfl (.fa rfl FA_88_2 rfl) ?_
      refine WH.take 4 rfl (Pf_blind _ _ _ _ _) (by kernel_rfl) (by kernel_rfl) (by kernel_rfl) (.refl _) (G0 rfl) rfl rfl (.load1 rfl NA_63 rfl (fun _ hw => hw.rd_blk (k := 1) 6 rfl rfl)) ?_
      refine WH.take 5 rfl (Pf_blind _ _ _ _ _) (by kernel_rfl) (by kernel_rfl) (by kernel_rfl) (.refl _) (G0 rfl) rfl rfl (.len rfl ST_63.1 rfl) ?_
      refine WH.take 6 rfl (Pf_blind _ _ _ _ _) (by kernel_rfl) (by kernel_rfl) (by kernel_rfl) (.refl _) (G0 rfl) rfl rfl (.add rfl rfl rfl (by omega) (by omega)) ?_
      refine WH.take 7 rfl (Pf_blind _ _ _ _ _) (by kernel_rfl) (by kernel_rfl) (by kernel_rfl) (.refl _) (G0 rfl) rfl rfl (.assign rfl rfl) ?_
      refine WH.take 8 rfl (Pf_blind _ _ _ _ _) (by kernel_rfl) (by kernel_rfl) (by kernel_rfl) (.refl _) (G0 rfl) rfl rfl (.assign rfl rfl) ?_
      refine WH.take 9 rfl (Pf_blind _ _ _ _ _) (by kernel_rfl) (by kernel_rfl) (by kernel_rfl) (.refl _) (G0 rfl) rfl rfl (.assign rfl rfl) ?_
      refine WH.take 10 rfl (Pf_blind _ _ _ _ _) (by kernel_rfl) (by kernel_rfl) (by kernel_rfl) (.refl _) (G0 rfl) rfl rfl (.assign rfl rfl) ?_
      refine WH.done (by kernel_rfl) ?_
      exact WA.ret4 rfl rfl rfl rfl rfl (.cons _ (.cons_cons _ (.cons_cons _ (.cons _ (.cons _ (.cons _ (.cons _ .slnil))))))) ⟨_, _, _, _, rfl, rfl⟩
  · have f54 := h7
    try simp only [decide_eq_true_eq, decide_eq_false_iff_not, Bool.not_eq_true', Bool.not_eq_false', Int.not_lt, Int.not_le] at f54
    refine WA.seq ?_
    refine WA.region ?_
    refine WR.val (G0 rfl) rfl rfl (.fa rfl FA_88_2 rfl) ?_
    refine WR.val (G0 rfl) rfl rfl (.load1 rfl NA_63 rfl (fun _ hw => hw.rd_blk (k := 1) 1 rfl rfl)) ?_
    refine WR.val (G0 rfl) rfl rfl (.len rfl ST_63.1 rfl) ?_
    refine WR.val (G0 rfl) rfl rfl (.eql rfl rfl rfl) ?_
    refine WR.val (G0 rfl) rfl rfl (.assign rfl rfl) ?_
    refine WR.nil ?_
    refine WA.cond rfl (fun h56 => ?_) (fun h56 => ?_)
    · have f57 := h56
      try simp only [decide_eq_true_eq, decide_eq_false_iff_not, Bool.not_eq_true', Bool.not_eq_false', Int.not_lt, Int.not_le] at f57
      refine WA.region ?_
      refine WR.val (G0 rfl) rfl rfl (.move rfl rfl) ?_
      refine WR.val (G0 rfl) rfl rfl (.move rfl rfl) ?_
      refine WR.val (G0 rfl) rfl rfl (.move rfl rfl) ?_
      refine WR.dw (G0 rfl) rfl rfl (.call0 (caps := []) rfl rfl rfl EN_47 (fun w hw => deleteEF s _ _ _ (hw.slf0 hS) (by omega) (eI s a) (eN s a b))) ?_
      rintro _ _ ⟨_, ⟨v59, v60, rfl, rfl⟩, rfl⟩
      refine WR.val (G0 rfl) rfl rfl (.move rfl rfl) ?_
      refine WR.val (G0 rfl) rfl rfl (.extract (vs := [_, _]) rfl rfl rfl) ?_
      refine WR.val (G0 rfl) rfl rfl (.extract (vs := [_, _]) rfl rfl rfl) ?_
      refine WR.val (G0 rfl) rfl rfl (.assign rfl rfl) ?_
      refine WR.val (G0 rfl) rfl rfl (.assign rfl rfl) ?_
      refine WR.nil ?_
      refine WA.mark ?_
      refine WA.seq ?_
      refine WA.seq ?_
      rw [hE.delete hb2 (List.length_eq_zero_iff.1 (by omega))]
      refine WA.region ?_
      refine WR.val (G0 rfl) rfl rfl (.move rfl rfl) ?_
      refine WR.val (G0 rfl) rfl rfl (.neq rfl rfl rfl) ?_
      refine WR.val (G0 rfl) rfl rfl (.move rfl rfl) ?_
      refine WR.val (Gt rfl rfl rfl (by simp)) rfl rfl (.move rfl rfl) ?_
      refine WR.val (Gt rfl rfl rfl (by simp)) rfl rfl (.eql rfl rfl rfl) ?_
      refine WR.val (Gt rfl rfl rfl (by simp)) rfl rfl (.move rfl rfl) ?_
      refine WR.off (Gf rfl rfl rfl (by simp; omega)) rfl rfl ?_
      refine WR.off (Gf rfl rfl rfl (by simp; omega)) rfl rfl ?_
      refine WR.off (Gf rfl rfl rfl (by simp; omega)) rfl rfl ?_
      refine WR.off (Gf rfl rfl rfl (by simp; omega)) rfl rfl ?_
      refine WR.val (Gt rfl rfl rfl (by simp)) rfl rfl (.pick_f rfl rfl (by simp; omega) rfl) ?_
      refine WR.val (Gt rfl rfl rfl (by simp)) rfl rfl (.move rfl rfl) ?_
      refine WR.off (Gf rfl rfl rfl rfl) rfl rfl ?_
      refine WR.off (Gf rfl rfl rfl rfl) rfl rfl ?_
      refine WR.off (Gf rfl rfl rfl rfl) rfl rfl ?_
      refine WR.val (Gt rfl rfl rfl (by simp)) rfl rfl (.pick_f rfl rfl rfl rfl) ?_
      refine WR.val (G0 rfl) rfl rfl (.pick_f rfl rfl (by simp) rfl) ?_
      refine WR.nil ?_
      refine WA.cond_f rfl rfl ?_
      refine WA.skip ?_
      refine WA.seq ?_
      refine WA.rowcap 0 rfl (fun hcap => ?_)
      refine WA.region ?_
      refine WR.val (G0 rfl) rfl rfl (.move rfl rfl) ?_
      refine WR.val (G0 rfl) rfl rfl (.move rfl rfl) ?_
      refine WR.dw (G0 rfl) rfl rfl (.call0 (caps := []) rfl rfl rfl EN_53 (fun w hw => applyEF s _ _ _ (hw.slf0 hS) (by omega) (eD s a b ⟨rep, ctr⟩ l) _ _ (hw.slf_row 0 rfl) (by omega) hc hcap.1)) ?_
      rintro _ _ ⟨_, ⟨v65, v66, v67, v68, rfl, rfl⟩, rfl⟩
      refine WR.val (G0 rfl) rfl rfl (.move rfl rfl) ?_
      refine WR.val (G0 rfl) rfl rfl (.extract (vs := [_, _, _]) rfl rfl rfl) ?_
      refine WR.val (G0 rfl) rfl rfl (.extract (vs := [_, _, _]) rfl rfl rfl) ?_
      refine WR.val (G0 rfl) rfl rfl (.extract (vs := [_, _, _]) rfl rfl rfl) ?_
      refine WR.val (G0 rfl) rfl rfl (.assign rfl rfl) ?_
      refine WR.val (G0 rfl) rfl rfl (.assign rfl rfl) ?_
      refine WR.val (G0 rfl) rfl rfl (.assign rfl rfl) ?_
      refine WR.nil ?_
      refine WA.seq ?_
      rw [hE.apply]
      refine WA.rowcap 3 rfl (fun hcapo => ?_)
      refine WA.region ?_
      refine WR.val (G0 rfl) rfl rfl (.move rfl rfl) ?_
      refine WR.val (G0 rfl) rfl rfl (.move rfl rfl) ?_
      refine WR.val (G0 rfl) rfl rfl (.move rfl rfl) ?_
      refine WR.val (G0 rfl) rfl rfl (.fa rfl FA_88_2 rfl) ?_
      refine WR.val (G0 rfl) rfl rfl (.load1 rfl NA_63 rfl (fun _ hw => hw.rd_blk (k := 1) 4 rfl rfl)) ?_
      refine WR.dw (G0 rfl) rfl rfl (.call0 (caps := []) rfl rfl rfl EN_132 (fun w hw => jcut9F (runesOf s) l (eI s a) (eN s a b) _ _ _ _ _ (hw.slf_row 3 rfl) (hw.slf0 hR) (by omega) (by omega) (by omega) hcapo.1)) ?_
      rintro _ _ ⟨_, ⟨v70, v71, rfl, rfl⟩, rfl⟩
      refine WR.val (G0 rfl) rfl rfl (.assign rfl rfl) ?_
      refine WR.nil ?_
      refine WA.seq ?_
      refine WA.seq ?_
      refine WA.region ?_
      refine WR.val (G0 rfl) rfl rfl (.move rfl rfl) ?_
      refine WR.val (G0 rfl) rfl rfl (.neq rfl rfl rfl) ?_
      refine WR.val (G0 rfl) rfl rfl (.move rfl rfl) ?_
      refine WR.val (Gt rfl rfl rfl (by simp)) rfl rfl (.move rfl rfl) ?_
      refine WR.val (Gt rfl rfl rfl (by simp)) rfl rfl (.move rfl rfl) ?_
      refine WR.dw (Gt rfl rfl rfl (by simp)) rfl rfl (.callv (caps := []) rfl rfl rfl EN_57 (fun w hw => jsameRTF (runesOf (eX s a b ⟨rep, ctr⟩ l)) (cutR (runesOf s) (eI s a) (eN s a b) l) _ _ _ _ _ (hw.slf_row 2 rfl) (hw.slf_row 0 rfl) (by omega) hXt)) ?_
      rintro _ _ ⟨rfl, rfl⟩
      refine WR.val (Gt rfl rfl rfl (by simp)) rfl rfl (.not rfl rfl) ?_
      refine WR.val (G0 rfl) rfl rfl (.pick_f rfl rfl (by simp) rfl) ?_
      refine WR.val (G0 rfl) rfl rfl (.move rfl rfl) ?_
      refine WR.val (Gt rfl rfl rfl rfl) rfl rfl (.move rfl rfl) ?_
      refine WR.dw (Gt rfl rfl rfl rfl) rfl rfl (.call0 (caps := []) rfl rfl rfl EN_58 (fun w hw => jrunesF (eX s a b ⟨rep, ctr⟩ l) _ _ _ (hw.slf_row 1 rfl) (by omega) (well_store hXw))) ?_
      rintro _ _ ⟨_, ⟨v75, v76, rfl, rfl⟩, rfl⟩
      refine WR.val (Gt rfl rfl rfl rfl) rfl rfl (.move rfl rfl) ?_
      refine WR.dw (Gt rfl rfl rfl rfl) rfl rfl (.callv (caps := []) rfl rfl rfl EN_57 (fun w hw => jsameRTF (runesOf (eX s a b ⟨rep, ctr⟩ l)) (cutR (runesOf s) (eI s a) (eN s a b) l) _ _ _ _ _ (hw.slf_row 0 rfl) (hw.slf_row 1 rfl) (by omega) hXt)) ?_
      rintro _ _ ⟨rfl, rfl⟩
      refine WR.val (Gt rfl rfl rfl rfl) rfl rfl (.not rfl rfl) ?_
      refine WR.val (G0 rfl) rfl rfl (.pick_f rfl rfl rfl rfl) ?_
      refine WR.val (G0 rfl) rfl rfl (.move rfl rfl) ?_
      refine WR.val (Gt rfl rfl rfl rfl) rfl rfl (.move rfl rfl) ?_
      refine WR.dw (Gt rfl rfl rfl rfl) rfl rfl (.callv (caps := []) rfl rfl rfl EN_63 (fun w hw => jwellTF (eX s a b ⟨rep, ctr⟩ l) _ _ _ (hw.slf_row 2 rfl) (by omega) hXw)) ?_
      rintro _ _ ⟨rfl, rfl⟩
      refine WR.val (Gt rfl rfl rfl rfl) rfl rfl (.not rfl rfl) ?_
      refine WR.val (G0 rfl) rfl rfl (.pick_f rfl rfl rfl rfl) ?_
      refine WR.nil ?_
      refine WA.cond_f rfl rfl ?_
      refine WA.skip ?_
      refine WA.seq ?_
      refine WA.draws0 follows ?_
      refine WH.take 0 rfl (Pf_blind _ _ _ _ _) (by kernel_rfl) (by kernel_rfl) (by kernel_rfl) (.refl _) (G0 rfl) rfl rfl (.move rfl rfl) ?_
      refine WH.take 1 rfl (Pf_blind _ _ _ _ _) (by kernel_rfl) (by kernel_rfl) (by kernel_rfl) (.refl _) (G0 rfl) rfl rfl (.move rfl rfl) ?_
      refine WH.take 2 rfl (Pf_blind _ _ _ _ _) (by kernel_rfl) (by kernel_rfl) (by kernel_rfl) (.refl _) (G0 rfl) rfl rfl (.move rfl rfl) ?_
      refine WH.take 3 rfl (Pf_blind _ _ _ _ _) (by kernel_rfl) (by kernel_rfl) (by kernel_rfl) (.refl _) (G0 rfl) rfl rfl (.fa rfl FA_88_2 rfl) ?_
      refine WH.take 4 rfl (Pf_blind _ _ _ _ _) (by kernel_rfl) (by kernel_rfl) (by kernel_rfl) (.refl _) (G0 rfl) rfl rfl (.load1 rfl NA_63 rfl (fun _ hw => hw.rd_blk (k := 1) 6 rfl rfl)) ?_
      refine WH.take 5 rfl (Pf_blind _ _ _ _ _) (by kernel_rfl) (by kernel_rfl) (by kernel_rfl) (.refl _) (G0 rfl) rfl rfl (.len rfl ST_63.1 rfl) ?_
      refine WH.take 6 rfl (Pf_blind _ _ _ _ _) (by kernel_rfl) (by kernel_rfl) (by kernel_rfl) (.refl _) (G0 rfl) rfl rfl (.add rfl rfl rfl (by omega) (by omega)) ?_
      refine WH.take 7 rfl (Pf_blind _ _ _ _ _) (by kernel_rfl) (by kernel_rfl) (by kernel_rfl) (.refl _) (G0 rfl) rfl rfl (.assign rfl rfl) ?_
      refine WH.take 8 rfl (Pf_blind _ _ _ _ _) (by kernel_rfl) (by kernel_rfl) (by kernel_rfl) (.refl _) (G0 rfl) rfl rfl (.assign rfl rfl) ?_
      refine WH.take 9 rfl (Pf_blind _ _ _ _ _) (by kernel_rfl) (by kernel_rfl) (by kernel_rfl) (.refl _) (G0 rfl) rfl rfl (.assign rfl rfl) ?_
      refine WH.take 10 rfl (Pf_blind _ _ _ _ _) (by kernel_rfl) (by kernel_rfl) (by kernel_rfl) (.refl _) (G0 rfl) rfl rfl (.assign rfl rfl) ?_
      refine WH.done (by kernel_rfl) ?_
      exact WA.ret4 rfl rfl rfl rfl rfl (.cons _ (.cons_cons _ (.cons_cons _ (.cons _ (.cons _ (.cons _ (.cons _ .slnil))))))) ⟨_, _, _, _, rfl, rfl⟩
    · have f79 := h56
      try simp only [decide_eq_true_eq, decide_eq_false_iff_not, Bool.not_eq_true', Bool.not_eq_false', Int.not_lt, Int.not_le] at f79
      refine WA.draws0 follows ?_
      refine WH.take 0 rfl (Pf_blind _ _ _ _ _) (by kernel_rfl) (by kernel_rfl) (by kernel_rfl) (.refl _) (G0 rfl) rfl rfl (.move rfl rfl) ?_
      refine WH.take 1 rfl (Pf_blind _ _ _ _ _) (by kernel_rfl) (by kernel_rfl) (by kernel_rfl) (.refl _) (G0 rfl) rfl rfl (.move rfl rfl) ?_
      refine WH.take 2 rfl (Pf_blind _ _ _ _ _) (by kernel_rfl) (by kernel_rfl) (by kernel_rfl) (.refl _) (G0 rfl) rfl rfl (.move rfl rfl) ?_
      refine WH.take 4 rfl (Pf_blind _ _ _ _ _) (by kernel_rfl) (by kernel_rfl) (by kernel_rfl) (.refl _) (G0 rfl) rfl rfl (.move rfl rfl) ?_
      refine WH.take 5 rfl (Pf_blind _ _ _ _ _) (by kernel_rfl) (by kernel_rfl) (by kernel_rfl) (.refl _) (G0 rfl) rfl rfl (.move rfl rfl) ?_
      refine WH.take 6 rfl (Pf_blind _ _ _ _ _) (by kernel_rfl) (by kernel_rfl) (by kernel_rfl) (.refl _) (G0 rfl) rfl rfl (.fa rfl FA_88_2 rfl) ?_
      refine WH.take 7 rfl (Pf_blind _ _ _ _ _) (by kernel_rfl) (by kernel_rfl) (by kernel_rfl) (.refl _) (G0 rfl) rfl rfl (.load1 rfl NA_63 rfl (fun _ hw => hw.rd_blk (k := 1) 1 rfl rfl)) ?_
      refine WH.dw 3 rfl (by kernel_rfl) (G0 rfl) rfl rfl (.callv (caps := []) rfl rfl rfl EN_60 (fun w hw => ldotF _ _ _)) ?_
      rintro _ _ ⟨rfl, rfl⟩
      refine ⟨(.refl _), ?_⟩
      refine WH.dw 8 rfl (by kernel_rfl) (G0 rfl) rfl rfl (.call0 (caps := []) rfl rfl rfl EN_50 (fun w hw => replaceEF s _ _ _ (hw.slf0 hS) (by omega) ⟨rep, ctr⟩ (eI s a) (eN s a b) l _ _ (hw.slf0 hR) (by omega))) ?_
      rintro _ _ ⟨_, ⟨v84, v85, rfl, rfl⟩, rfl⟩
      refine ⟨(.cons _ (.refl _)), ?_⟩
      refine WH.take 9 rfl (Pf_blind _ _ _ _ _) (by kernel_rfl) (by kernel_rfl) (by kernel_rfl) (.cons _ (.refl _)) (G0 rfl) rfl rfl (.move rfl rfl) ?_
      refine WH.take 10 rfl (Pf_blind _ _ _ _ _) (by kernel_rfl) (by kernel_rfl) (by kernel_rfl) (.cons _ (.refl _)) (G0 rfl) rfl rfl (.extract (vs := [_, _]) rfl rfl rfl) ?_
      refine WH.take 11 rfl (Pf_blind _ _ _ _ _) (by kernel_rfl) (by kernel_rfl) (by kernel_rfl) (.cons _ (.refl _)) (G0 rfl) rfl rfl (.extract (vs := [_, _]) rfl rfl rfl) ?_
      refine WH.take 12 rfl (Pf_blind _ _ _ _ _) (by kernel_rfl) (by kernel_rfl) (by kernel_rfl) (.cons _ (.refl _)) (G0 rfl) rfl rfl (.assign rfl rfl) ?_
      refine WH.take 13 rfl (Pf_blind _ _ _ _ _) (by kernel_rfl) (by kernel_rfl) (by kernel_rfl) (.cons _ (.refl _)) (G0 rfl) rfl rfl (.assign rfl rfl) ?_
      refine WH.done (by kernel_rfl) ?_
      refine WA.mark ?_
      refine WA.seq ?_
      refine WA.seq ?_
      rw [hE.replace hb2]
      refine WA.region ?_
      refine WR.val (G0 rfl) rfl rfl (.move rfl rfl) ?_
      refine WR.val (G0 rfl) rfl rfl (.neq rfl rfl rfl) ?_
      refine WR.val (G0 rfl) rfl rfl (.move rfl rfl) ?_
      refine WR.val (Gt rfl rfl rfl (by simp)) rfl rfl (.move rfl rfl) ?_
      refine WR.val (Gt rfl rfl rfl (by simp)) rfl rfl (.eql rfl rfl rfl) ?_
      refine WR.val (Gt rfl rfl rfl (by simp)) rfl rfl (.move rfl rfl) ?_
      refine WR.off (Gf rfl rfl rfl (by simp; omega)) rfl rfl ?_
      refine WR.off (Gf rfl rfl rfl (by simp; omega)) rfl rfl ?_
      refine WR.off (Gf rfl rfl rfl (by simp; omega)) rfl rfl ?_
      refine WR.off (Gf rfl rfl rfl (by simp; omega)) rfl rfl ?_
      refine WR.val (Gt rfl rfl rfl (by simp)) rfl rfl (.pick_f rfl rfl (by simp; omega) rfl) ?_
      refine WR.val (Gt rfl rfl rfl (by simp)) rfl rfl (.move rfl rfl) ?_
      refine WR.off (Gf rfl rfl rfl rfl) rfl rfl ?_
      refine WR.off (Gf rfl rfl rfl rfl) rfl rfl ?_
      refine WR.off (Gf rfl rfl rfl rfl) rfl rfl ?_
      refine WR.val (Gt rfl rfl rfl (by simp)) rfl rfl (.pick_f rfl rfl rfl rfl) ?_
      refine WR.val (G0 rfl) rfl rfl (.pick_f rfl rfl (by simp) rfl) ?_
      refine WR.nil ?_
      refine WA.cond_f rfl rfl ?_
      refine WA.skip ?_
      refine WA.seq ?_
      refine WA.rowcap 0 rfl (fun hcap => ?_)
      refine WA.region ?_
      refine WR.val (G0 rfl) rfl rfl (.move rfl rfl) ?_
      refine WR.val (G0 rfl) rfl rfl (.move rfl rfl) ?_
      refine WR.dw (G0 rfl) rfl rfl (.call0 (caps := []) rfl rfl rfl EN_53 (fun w hw => applyEF s _ _ _ (hw.slf0 hS) (by omega) (eD s a b ⟨rep, ctr⟩ l) _ _ (hw.slf_row 0 rfl) (by omega) hc hcap.1)) ?_
      rintro _ _ ⟨_, ⟨v90, v91, v92, v93, rfl, rfl⟩, rfl⟩
      refine WR.val (G0 rfl) rfl rfl (.move rfl rfl) ?_
      refine WR.val (G0 rfl) rfl rfl (.extract (vs := [_, _, _]) rfl rfl rfl) ?_
      refine WR.val (G0 rfl) rfl rfl (.extract (vs := [_, _, _]) rfl rfl rfl) ?_
      refine WR.val (G0 rfl) rfl rfl (.extract (vs := [_, _, _]) rfl rfl rfl) ?_
      refine WR.val (G0 rfl) rfl rfl (.assign rfl rfl) ?_
      refine WR.val (G0 rfl) rfl rfl (.assign rfl rfl) ?_
      refine WR.val (G0 rfl) rfl rfl (.assign rfl rfl) ?_
      refine WR.nil ?_
      refine WA.seq ?_
      rw [hE.apply]
      refine WA.rowcap 3 rfl (fun hcapo => ?_)
      refine WA.region ?_
      refine WR.val (G0 rfl) rfl rfl (.move rfl rfl) ?_
      refine WR.val (G0 rfl) rfl rfl (.move rfl rfl) ?_
      refine WR.val (G0 rfl) rfl rfl (.move rfl rfl) ?_
      refine WR.val (G0 rfl) rfl rfl (.fa rfl FA_88_2 rfl) ?_
      refine WR.val (G0 rfl) rfl rfl (.load1 rfl NA_63 rfl (fun _ hw => hw.rd_blk (k := 1) 4 rfl rfl)) ?_
      refine WR.dw (G0 rfl) rfl rfl (.call0 (caps := []) rfl rfl rfl EN_132 (fun w hw => jcut9F (runesOf s) l (eI s a) (eN s a b) _ _ _ _ _ (hw.slf_row 3 rfl) (hw.slf0 hR) (by omega) (by omega) (by omega) hcapo.1)) ?_
      rintro _ _ ⟨_, ⟨v95, v96, rfl, rfl⟩, rfl⟩
      refine WR.val (G0 rfl) rfl rfl (.assign rfl rfl) ?_
      refine WR.nil ?_
      refine WA.seq ?_
      refine WA.seq ?_
      refine WA.region ?_
      refine WR.val (G0 rfl) rfl rfl (.move rfl rfl) ?_
      refine WR.val (G0 rfl) rfl rfl (.neq rfl rfl rfl) ?_
      refine WR.val (G0 rfl) rfl rfl (.move rfl rfl) ?_
      refine WR.val (Gt rfl rfl rfl (by simp)) rfl rfl (.move rfl rfl) ?_
      refine WR.val (Gt rfl rfl rfl (by simp)) rfl rfl (.move rfl rfl) ?_
      refine WR.dw (Gt rfl rfl rfl (by simp)) rfl rfl (.callv (caps := []) rfl rfl rfl EN_57 (fun w hw => jsameRTF (runesOf (eX s a b ⟨rep, ctr⟩ l)) (cutR (runesOf s) (eI s a) (eN s a b) l) _ _ _ _ _ (hw.slf_row 2 rfl) (hw.slf_row 0 rfl) (by omega) hXt)) ?_
      rintro _ _ ⟨rfl, rfl⟩
      refine WR.val (Gt rfl rfl rfl (by simp)) rfl rfl (.not rfl rfl) ?_
      refine WR.val (G0 rfl) rfl rfl (.pick_f rfl rfl (by simp) rfl) ?_
      refine WR.val (G0 rfl) rfl rfl (.move rfl rfl) ?_
      refine WR.val (Gt rfl rfl rfl rfl) rfl rfl (.move rfl rfl) ?_
      refine WR.dw (Gt rfl rfl rfl rfl) rfl rfl (.call0 (caps := []) rfl rfl rfl EN_58 (fun w hw => jrunesF (eX s a b ⟨rep, ctr⟩ l) _ _ _ (hw.slf_row 1 rfl) (by omega) (well_store hXw))) ?_
      rintro _ _ ⟨_, ⟨v100, v101, rfl, rfl⟩, rfl⟩
      refine WR.val (Gt rfl rfl rfl rfl) rfl rfl (.move rfl rfl) ?_
      refine WR.dw (Gt rfl rfl rfl rfl) rfl rfl (.callv (caps := []) rfl rfl rfl EN_57 (fun w hw => jsameRTF (runesOf (eX s a b ⟨rep, ctr⟩ l)) (cutR (runesOf s) (eI s a) (eN s a b) l) _ _ _ _ _ (hw.slf_row 0 rfl) (hw.slf_row 1 rfl) (by omega) hXt)) ?_
      rintro _ _ ⟨rfl, rfl⟩
      refine WR.val (Gt rfl rfl rfl rfl) rfl rfl (.not rfl rfl) ?_
      refine WR.val (G0 rfl) rfl rfl (.pick_f rfl rfl rfl rfl) ?_
      refine WR.val (G0 rfl) rfl rfl (.move rfl rfl) ?_
      refine WR.val (Gt rfl rfl rfl rfl) rfl rfl (.move rfl rfl) ?_
      refine WR.dw (Gt rfl rfl rfl rfl) rfl rfl (.callv (caps := []) rfl rfl rfl EN_63 (fun w hw => jwellTF (eX s a b ⟨rep, ctr⟩ l) _ _ _ (hw.slf_row 2 rfl) (by omega) hXw)) ?_
      rintro _ _ ⟨rfl, rfl⟩
      refine WR.val (Gt rfl rfl rfl rfl) rfl rfl (.not rfl rfl) ?_
      refine WR.val (G0 rfl) rfl rfl (.pick_f rfl rfl rfl rfl) ?_
      refine WR.nil ?_
      refine WA.cond_f rfl rfl ?_
      refine WA.skip ?_
      refine WA.seq ?_
      refine WA.draws0 follows ?_
      refine WH.take 0 rfl (Pf_blind _ _ _ _ _) (by kernel_rfl) (by kernel_rfl) (by kernel_rfl) (.refl _) (G0 rfl) rfl rfl (.move rfl rfl) ?_
      refine WH.take 1 rfl (Pf_blind _ _ _ _ _) (by kernel_rfl) (by kernel_rfl) (by kernel_rfl) (.refl _) (G0 rfl) rfl rfl (.move rfl rfl) ?_
      refine WH.take 2 rfl (Pf_blind _ _ _ _ _) (by kernel_rfl) (by kernel_rfl) (by kernel_rfl) (.refl _) (G0 rfl) rfl rfl (.move rfl rfl) ?_
      refine WH.take 3 rfl (Pf_blind _ _ _ _ _) (by kernel_rfl) (by kernel_rfl) (by kernel_rfl) (.refl _) (G0 rfl) rfl rfl (.fa rfl FA_88_2 rfl) ?_
      refine WH.take 4 rfl (Pf_blind _ _ _ _ _) (by kernel_rfl) (by kernel_rfl) (by kernel_rfl) (.refl _) (G0 rfl) rfl rfl (.load1 rfl NA_63 rfl (fun _ hw => hw.rd_blk (k := 1) 6 rfl rfl)) ?_
      refine WH.take 5 rfl (Pf_blind _ _ _ _ _) (by kernel_rfl) (by kernel_rfl) (by kernel_rfl) (.refl _) (G0 rfl) rfl rfl (.len rfl ST_63.1 rfl) ?_
      refine WH.take 6 rfl (Pf_blind _ _ _ _ _) (by kernel_rfl) (by kernel_rfl) (by kernel_rfl) (.refl _) (G0 rfl) rfl rfl (.add rfl rfl rfl (by omega) (by omega)) ?_
      refine WH.take 7 rfl (Pf_blind _ _ _ _ _) (by kernel_rfl) (by kernel_rfl) (by kernel_rfl) (.refl _) (G0 rfl) rfl rfl (.assign rfl rfl) ?_
      refine WH.take 8 rfl (Pf_blind _ _ _ _ _) (by kernel_rfl) (by kernel_rfl) (by kernel_rfl) (.refl _) (G0 rfl) rfl rfl (.assign rfl rfl) ?_
      refine WH.take 9 rfl (Pf_blind _ _ _ _ _) (by kernel_rfl) (by kernel_rfl) (by kernel_rfl) (.refl _) (G0 rfl) rfl rfl (.assign rfl rfl) ?_
      refine WH.take 10 rfl (Pf_blind _ _ _ _ _) (by kernel_rfl) (by kernel_rfl) (by kernel_rfl) (.refl _) (G0 rfl) rfl rfl (.assign rfl rfl) ?_
      refine WH.done (by kernel_rfl) ?_
      exact WA.ret4 rfl rfl rfl rfl rfl (.cons _ (.cons_cons _ (.cons_cons _ (.cons _ (.cons _ (.cons _ (.cons _ .slnil))))))) ⟨_, _, _, _, rfl, rfl⟩
end Go.Proofs.YtpbillinpjccdaaGreat.Fw
