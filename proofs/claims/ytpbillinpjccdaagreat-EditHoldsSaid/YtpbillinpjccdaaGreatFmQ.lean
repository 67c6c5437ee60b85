/- Contracts: edits. -/
import Derived.Test.YtpbillinpjccdaaGreatFlQ
import Derived.Test.YtpbillinpjccdaaGreatRlQ
namespace Go.Proofs.YtpbillinpjccdaaGreat.Fm
open Go.RowKit Go.J Go.R Go.Proofs.YtpbillinpjccdaaGreat.Fa Go.Proofs.YtpbillinpjccdaaGreat.Fb Go.Proofs.YtpbillinpjccdaaGreat.Fc Go.Proofs.YtpbillinpjccdaaGreat.Fd Go.Proofs.YtpbillinpjccdaaGreat.Fe Go.Proofs.YtpbillinpjccdaaGreat.Fg Go.Proofs.YtpbillinpjccdaaGreat.Fh Go.Proofs.YtpbillinpjccdaaGreat.Fi Go.Proofs.YtpbillinpjccdaaGreat.Fj Go.Proofs.YtpbillinpjccdaaGreat.Fk Go.Proofs.YtpbillinpjccdaaGreat.Fl
set_option linter.unusedVariables false
set_option linter.unusedSimpArgs false
theorem follows : Tryz.prog.follows .mixedOrders = true := by kernel_rfl
theorem AG_39 : AG Tryz.prog 39 2 := ⟨Tryz.isAgg39, Tryz.sizeOf39⟩
theorem AG_42 : AG Tryz.prog 42 6 := ⟨Tryz.isAgg42, Tryz.sizeOf42⟩
theorem EN_101 : Enters Tryz.prog 101 := enters_of Tryz.func101 (by kernel_rfl) rfl
theorem EN_107 : Enters Tryz.prog 107 := enters_of Tryz.func107 (by kernel_rfl) rfl
theorem EN_115 : Enters Tryz.prog 115 := enters_of Tryz.func115 (by kernel_rfl) rfl
theorem EN_116 : Enters Tryz.prog 116 := enters_of Tryz.func116 (by kernel_rfl) rfl
theorem EN_117 : Enters Tryz.prog 117 := enters_of Tryz.func117 (by kernel_rfl) rfl
theorem EN_118 : Enters Tryz.prog 118 := enters_of Tryz.func118 (by kernel_rfl) rfl
theorem EN_119 : Enters Tryz.prog 119 := enters_of Tryz.func119 (by kernel_rfl) rfl
theorem EN_120 : Enters Tryz.prog 120 := enters_of Tryz.func120 (by kernel_rfl) rfl
theorem EN_121 : Enters Tryz.prog 121 := enters_of Tryz.func121 (by kernel_rfl) rfl
theorem EN_122 : Enters Tryz.prog 122 := enters_of Tryz.func122 (by kernel_rfl) rfl
theorem EN_123 : Enters Tryz.prog 123 := enters_of Tryz.func123 (by kernel_rfl) rfl
theorem EN_124 : Enters Tryz.prog 124 := enters_of Tryz.func124 (by kernel_rfl) rfl
theorem EN_125 : Enters Tryz.prog 125 := enters_of Tryz.func125 (by kernel_rfl) rfl
theorem EN_126 : Enters Tryz.prog 126 := enters_of Tryz.func126 (by kernel_rfl) rfl
theorem EN_127 : Enters Tryz.prog 127 := enters_of Tryz.func127 (by kernel_rfl) rfl
theorem EN_149 : Enters Tryz.prog 149 := enters_of Tryz.func149 (by kernel_rfl) rfl
theorem EN_183 : Enters Tryz.prog 183 := enters_of Tryz.func183 (by kernel_rfl) rfl
theorem EN_184 : Enters Tryz.prog 184 := enters_of Tryz.func184 (by kernel_rfl) rfl
theorem EN_185 : Enters Tryz.prog 185 := enters_of Tryz.func185 (by kernel_rfl) rfl
theorem EN_32 : Enters Tryz.prog 32 := enters_of Tryz.func32 (by kernel_rfl) rfl
theorem EN_33 : Enters Tryz.prog 33 := enters_of Tryz.func33 (by kernel_rfl) rfl
theorem EN_47 : Enters Tryz.prog 47 := enters_of Tryz.func47 (by kernel_rfl) rfl
theorem EN_50 : Enters Tryz.prog 50 := enters_of Tryz.func50 (by kernel_rfl) rfl
theorem EN_51 : Enters Tryz.prog 51 := enters_of Tryz.func51 (by kernel_rfl) rfl
theorem FA_39_0 : FA Tryz.prog 39 0 0 := fun ad w => by simp [Instr.fieldAt, run_underlying Tryz.underlying39, Instr.sureAddr, fieldPlace, Tryz.sizeOf3]
theorem FA_39_1 : FA Tryz.prog 39 1 1 := fun ad w => by simp [Instr.fieldAt, run_underlying Tryz.underlying39, Instr.sureAddr, fieldPlace, Tryz.sizeOf3]
theorem FA_42_0 : FA Tryz.prog 42 0 0 := fun ad w => by simp [Instr.fieldAt, run_underlying Tryz.underlying42, Instr.sureAddr, fieldPlace, Tryz.sizeOf39]
theorem NA_21 : NA Tryz.prog 21 := ⟨Tryz.isAgg21, Tryz.sizeOf21⟩
theorem NA_29 : NA Tryz.prog 29 := ⟨Tryz.isAgg29, Tryz.sizeOf29⟩
theorem NA_3 : NA Tryz.prog 3 := ⟨Tryz.isAgg3, Tryz.sizeOf3⟩
theorem ST_22 : ST Tryz.prog 22 42 6 := ⟨Tryz.underlying22, Tryz.sizeOf42⟩
theorem ST_229 : ST Tryz.prog 229 29 1 := ⟨Tryz.underlying229, Tryz.sizeOf29⟩
theorem ST_23 : ST Tryz.prog 23 42 6 := ⟨Tryz.underlying23, Tryz.sizeOf42⟩
theorem ST_63 : ST Tryz.prog 63 21 1 := ⟨Tryz.underlying63, Tryz.sizeOf21⟩
theorem ZT_39 : ZT Tryz.prog 39 (.agg #[.int .i64 0, .int .i64 0]) 2 16 := by unfold ZT; kernel_rfl
theorem ZT_42 : ZT Tryz.prog 42 (.agg #[.int .i64 0, .int .i64 0, .int .i64 0, .int .i64 0, .int .i64 0, .int .i32 0]) 6 48 := by unfold ZT; kernel_rfl
set_option maxRecDepth 20000 in
/-- redpencil/edit.Latest -/
theorem latestF (l : List Nd) (A : Option Addr) (cap : Nat) (w : World) (hS : SlN w A l) (hl : l.length ≤ 400000) : Ct Tryz.prog 51 #[.slice A l.length cap] [] w (fun u hs => u = .int .i64 (latest l) ∧ hs = []) := by
  refine Ct.intro Tryz.func51 rfl Tryz.ntmps51 rfl ?_
  refine WA.seq ?_
  refine WA.region ?_
  refine WR.val (G0 rfl) rfl rfl (.assign rfl rfl) ?_
  refine WR.nil ?_
  refine WA.seq ?_
  refine WA.region ?_
  refine WR.val (G0 rfl) rfl rfl (.move rfl rfl) ?_
  refine WR.dw (G0 rfl) rfl rfl (.callv (caps := []) rfl rfl rfl EN_127 (fun w hw => timeF _ _ _ _ (hw.slf0 hS) (by first | omega | (simp; omega)))) ?_
  rintro _ _ ⟨rfl, rfl⟩
  refine WR.val (G0 rfl) rfl rfl (.move rfl rfl) ?_
  refine WR.val (G0 rfl) rfl rfl (.extract (vs := [_, _]) rfl rfl rfl) ?_
  refine WR.val (G0 rfl) rfl rfl (.extract (vs := [_, _]) rfl rfl rfl) ?_
  refine WR.val (G0 rfl) rfl rfl (.assign rfl rfl) ?_
  refine WR.val (G0 rfl) rfl rfl (.assign rfl rfl) ?_
  refine WR.nil ?_
  refine WA.seq ?_
  refine WA.region ?_
  refine WR.val (G0 rfl) rfl rfl (.move rfl rfl) ?_
  refine WR.val (G0 rfl) rfl rfl (.assign rfl rfl) ?_
  refine WR.nil ?_
  exact WA.ret1 rfl rfl (List.nil_sublist _) ⟨rfl, rfl⟩
set_option maxRecDepth 20000 in
/-- redpencil/edit.when -/
theorem ewhenF (b : Bool) (e : Int) (w : World) : Ct Tryz.prog 117 #[.bool b, .int .i64 e] [] w (fun u hs => u = .int .i64 (whenE b e) ∧ hs = []) := by
  refine Ct.intro Tryz.func117 rfl Tryz.ntmps117 rfl ?_
  refine WA.seq ?_
  refine WA.region ?_
  refine WR.val (G0 rfl) rfl rfl (.assign rfl rfl) ?_
  refine WR.nil ?_
  refine WA.seq ?_
  refine WA.seq ?_
  refine WA.region ?_
  refine WR.val (G0 rfl) rfl rfl (.move rfl rfl) ?_
  refine WR.nil ?_
  refine WA.cond rfl (fun h1 => ?_) (fun h1 => ?_)
  · have f2 := h1
    try simp only [decide_eq_true_eq, decide_eq_false_iff_not, Bool.not_eq_true', Bool.not_eq_false', Int.not_lt, Int.not_le] at f2
    refine WA.seq ?_
    refine WA.region ?_
    refine WR.val (G0 rfl) rfl rfl (.move rfl rfl) ?_
    refine WR.val (G0 rfl) rfl rfl (.assign rfl rfl) ?_
    refine WR.nil ?_
    exact WA.ret1 rfl rfl (List.nil_sublist _) ⟨by simp_all [whenE], rfl⟩
  · have f3 := h1
    try simp only [decide_eq_true_eq, decide_eq_false_iff_not, Bool.not_eq_true', Bool.not_eq_false', Int.not_lt, Int.not_le] at f3
    refine WA.skip ?_
    refine WA.seq ?_
    refine WA.region ?_
    refine WR.val (G0 rfl) rfl rfl (.assign rfl rfl) ?_
    refine WR.nil ?_
    exact WA.ret1 rfl rfl (List.nil_sublist _) ⟨by simp_all [whenE], rfl⟩
set_option maxRecDepth 20000 in
/-- redpencil/edit.first -/
theorem efirstF (l : List Int) (A : Option Addr) (cap : Nat) (w : World) (hS : SlI w A l) (hl : l.length ≤ 1000) : Ct Tryz.prog 115 #[.slice A l.length cap] [] w (fun u hs => u = .int .i64 (firstE l) ∧ hs = []) := by
  refine Ct.intro Tryz.func115 rfl Tryz.ntmps115 rfl ?_
  refine WA.seq ?_
  refine WA.region ?_
  refine WR.val (G0 rfl) rfl rfl (.assign rfl rfl) ?_
  refine WR.nil ?_
  refine WA.seq ?_
  refine WA.seq ?_
  refine WA.region ?_
  refine WR.val (G0 rfl) rfl rfl (.move rfl rfl) ?_
  refine WR.val (G0 rfl) rfl rfl (.len rfl ST_229.1 rfl) ?_
  refine WR.val (G0 rfl) rfl rfl (.move rfl rfl) ?_
  refine WR.nil ?_
  refine WA.block ?_
  refine WA.loopK (γ := Nat) [(5, _), (6, _)] [] (fun k => [(7, .int .i64 (k : Int))]) (fun k => []) (fun k => k ≤ l.length ∧ firstE (l.drop k) = firstE l) (fun k => l.length - k) 0 (.cons rfl (.cons rfl (.nil _))) (.cons rfl (.nil _)) .slnil ⟨by omega, rfl⟩ ?_
  intro k hk
  obtain ⟨hk, hd⟩ := hk
  refine WA.seq ?_
  refine WA.region ?_
  refine WR.val (G0 rfl) rfl rfl (.lss rfl rfl rfl) ?_
  refine WR.nil ?_
  refine WA.seq ?_
  refine WA.cond rfl (fun h2 => ?_) (fun h2 => ?_)
  · have f3 := h2
    try simp only [decide_eq_true_eq, decide_eq_false_iff_not, Bool.not_eq_true', Bool.not_eq_false', Int.not_lt, Int.not_le] at f3
    refine WA.skip ?_
    refine WA.seq ?_
    refine WA.block ?_
    refine WA.seq ?_
    refine WA.region ?_
    refine WR.val (G0 rfl) rfl rfl (.ix rfl ST_229 rfl rfl (by omega) (by omega) (fun _ hw hn => (hw.slf0 hS).some_ hn)) ?_
    refine WR.val (G0 rfl) rfl rfl (.load1 rfl NA_29 rfl (fun _ hw => rdI (hw.slf0 hS) (by omega) (by omega))) ?_
    refine WR.val (G0 rfl) rfl rfl (.assign rfl rfl) ?_
    refine WR.nil ?_
    refine WA.seq ?_
    refine WA.region ?_
    refine WR.val (G0 rfl) rfl rfl (.move rfl rfl) ?_
    refine WR.val (G0 rfl) rfl rfl (.neq rfl rfl rfl) ?_
    refine WR.nil ?_
    refine WA.cond rfl (fun h5 => ?_) (fun h5 => ?_)
    · have f6 := h5
      try simp only [decide_eq_true_eq, decide_eq_false_iff_not, Bool.not_eq_true', Bool.not_eq_false', Int.not_lt, Int.not_le] at f6
      refine WA.seq ?_
      refine WA.region ?_
      refine WR.val (G0 rfl) rfl rfl (.move rfl rfl) ?_
      refine WR.val (G0 rfl) rfl rfl (.assign rfl rfl) ?_
      refine WR.nil ?_
      have hq : k < l.length := by omega
      rw [drop_gx l hq, firstE, if_neg (by simp_all)] at hd
      exact WA.ret1 rfl rfl (List.nil_sublist _) ⟨by rw [← hd], rfl⟩
    · have f7 := h5
      try simp only [decide_eq_true_eq, decide_eq_false_iff_not, Bool.not_eq_true', Bool.not_eq_false', Int.not_lt, Int.not_le] at f7
      refine WA.skip ?_
      refine WA.mark ?_
      refine WA.region ?_
      refine WR.val (G0 rfl) rfl rfl (.add rfl rfl rfl (by omega) (by omega)) ?_
      refine WR.val (G0 rfl) rfl rfl (.move rfl rfl) ?_
      refine WR.nil ?_
      have hq : k < l.length := by omega
      rw [drop_gx l hq, firstE, if_pos (by simp_all)] at hd
      exact WA.roundK (k + 1) (.cons rfl (.cons rfl (.nil _))) (.cons rfl (.nil _)) .slnil ⟨by omega, hd⟩ (by omega)
  · have f8 := h2
    try simp only [decide_eq_true_eq, decide_eq_false_iff_not, Bool.not_eq_true', Bool.not_eq_false', Int.not_lt, Int.not_le] at f8
    refine WA.exit rfl ?_
    refine WA.seq ?_
    refine WA.region ?_
    refine WR.val (G0 rfl) rfl rfl (.assign rfl rfl) ?_
    refine WR.nil ?_
    rw [List.drop_of_length_le (by omega)] at hd
    exact WA.ret1 rfl rfl (List.nil_sublist _) ⟨by rw [← hd]; rfl, rfl⟩
set_option maxRecDepth 20000 in
/-- redpencil/edit.span -/
theorem spanF (l : List Nd) (A : Option Addr) (cap : Nat) (w : World) (hS : SlN w A l) (hl : l.length ≤ 400000) (a n : Int) : Ct Tryz.prog 116 #[.slice A l.length cap, .int .i64 a, .int .i64 n] [] w (fun u hs => u = .int .i64 (spanR l a n) ∧ hs = []) := by
  refine Ct.intro Tryz.func116 rfl Tryz.ntmps116 rfl ?_
  refine WA.seq ?_
  refine WA.region ?_
  refine WR.val (G0 rfl) rfl rfl (.assign rfl rfl) ?_
  refine WR.nil ?_
  refine WA.seq ?_
  refine WA.seq ?_
  have hvl := visR_len l
  refine WA.region ?_
  refine WR.val (G0 rfl) rfl rfl (.move rfl rfl) ?_
  refine WR.dw (G0 rfl) rfl rfl (.callv (caps := []) rfl rfl rfl EN_33 (fun w hw => wellF _ _ _ _ (hw.slf0 hS) (by first | omega | (simp; omega)))) ?_
  rintro _ _ ⟨rfl, rfl⟩
  refine WR.val (G0 rfl) rfl rfl (.not rfl rfl) ?_
  refine WR.nil ?_
  refine WA.cond rfl (fun h3 => ?_) (fun h3 => ?_)
  · have f4 := h3
    try simp only [decide_eq_true_eq, decide_eq_false_iff_not, Bool.not_eq_true', Bool.not_eq_false', Int.not_lt, Int.not_le] at f4
    refine WA.seq ?_
    refine WA.region ?_
    refine WR.val (G0 rfl) rfl rfl (.assign rfl rfl) ?_
    refine WR.nil ?_
    exact WA.ret1 rfl rfl (List.nil_sublist _) ⟨by simp only [spanR, firstE_two, whenE, decide_eq_true_eq]; (repeat' split) <;> (first | rfl | omega | (exfalso; simp_all [firstE_two, whenE]; done) | (simp_all [firstE_two, whenE]; done) | (exfalso; simp_all [firstE_two, whenE]; omega) | (simp_all [firstE_two, whenE]; omega)), rfl⟩
  · have f5 := h3
    try simp only [decide_eq_true_eq, decide_eq_false_iff_not, Bool.not_eq_true', Bool.not_eq_false', Int.not_lt, Int.not_le] at f5
    refine WA.skip ?_
    refine WA.seq ?_
    refine WA.region ?_
    refine WR.val (G0 rfl) rfl rfl (.move rfl rfl) ?_
    refine WR.dw (G0 rfl) rfl rfl (.callv (caps := []) rfl rfl rfl EN_149 (fun w hw => ilenF _ _ _ _ (hw.slf0 hS) (by first | omega | (simp; omega)))) ?_
    rintro _ _ ⟨rfl, rfl⟩
    refine WR.val (G0 rfl) rfl rfl (.move rfl rfl) ?_
    refine WR.val (G0 rfl) rfl rfl (.extract (vs := [_, _]) rfl rfl rfl) ?_
    refine WR.val (G0 rfl) rfl rfl (.extract (vs := [_, _]) rfl rfl rfl) ?_
    refine WR.val (G0 rfl) rfl rfl (.assign rfl rfl) ?_
    refine WR.val (G0 rfl) rfl rfl (.assign rfl rfl) ?_
    refine WR.nil ?_
    refine WA.seq ?_
    refine WA.region ?_
    refine WR.val (G0 rfl) rfl rfl (.move rfl rfl) ?_
    refine WR.val (G0 rfl) rfl rfl (.move rfl rfl) ?_
    refine WR.val (G0 rfl) rfl rfl (.lss rfl rfl rfl) ?_
    refine WR.val (G0 rfl) rfl rfl (.move rfl rfl) ?_
    refine WR.split (d := 20) rfl (fun h7 => ?_) (fun h7 => ?_)
    · have f8 := h7
      try simp only [decide_eq_true_eq, decide_eq_false_iff_not, Bool.not_eq_true', Bool.not_eq_false', Int.not_lt, Int.not_le] at f8
      refine WR.off (Gf rfl rfl rfl h7) rfl rfl ?_
      refine WR.off (Gf rfl rfl rfl h7) rfl rfl ?_
      refine WR.val (G0 rfl) rfl rfl (.pick_t rfl rfl h7 rfl) ?_
      refine WR.val (G0 rfl) rfl rfl (.move rfl rfl) ?_
      refine WR.off (Gf rfl rfl rfl rfl) rfl rfl ?_
      refine WR.off (Gf rfl rfl rfl rfl) rfl rfl ?_
      refine WR.off (Gf rfl rfl rfl rfl) rfl rfl ?_
      refine WR.val (G0 rfl) rfl rfl (.pick_t rfl rfl rfl rfl) ?_
      refine WR.val (G0 rfl) rfl rfl (.move rfl rfl) ?_
      refine WR.off (Gf rfl rfl rfl rfl) rfl rfl ?_
      refine WR.off (Gf rfl rfl rfl rfl) rfl rfl ?_
      refine WR.off (Gf rfl rfl rfl rfl) rfl rfl ?_
      refine WR.off (Gf rfl rfl rfl rfl) rfl rfl ?_
      refine WR.off (Gf rfl rfl rfl rfl) rfl rfl ?_
      refine WR.val (G0 rfl) rfl rfl (.pick_t rfl rfl rfl rfl) ?_
      refine WR.dw (G0 rfl) rfl rfl (.callv (caps := []) rfl rfl rfl EN_117 (fun w hw => ewhenF _ _ w)) ?_
      rintro _ _ ⟨rfl, rfl⟩
      refine WR.dw (G0 rfl) rfl rfl (.buildSlice (k := 1) (e := 29) (vs := [_, _]) rfl rfl rfl (fun _ => by kernel_rfl) rfl) ?_
      rintro _ _ ⟨b10, rfl, rfl⟩
      refine WR.dw (G0 rfl) rfl rfl (.callv (caps := []) rfl rfl rfl EN_115 (fun w hw => efirstF [_, _] _ _ w (hw.slf_blk 0 rfl rfl (by simp [maxLen])) (by simp))) ?_
      rintro _ _ ⟨rfl, rfl⟩
      refine WR.val (G0 rfl) rfl rfl (.assign rfl rfl) ?_
      refine WR.nil ?_
      exact WA.ret1 rfl rfl (List.nil_sublist _) ⟨by simp only [spanR, firstE_two, whenE, decide_eq_true_eq]; (repeat' split) <;> (first | rfl | omega | (exfalso; simp_all [firstE_two, whenE]; done) | (simp_all [firstE_two, whenE]; done) | (exfalso; simp_all [firstE_two, whenE]; omega) | (simp_all [firstE_two, whenE]; omega)), rfl⟩
    · have f11 := h7
      try simp only [decide_eq_true_eq, decide_eq_false_iff_not, Bool.not_eq_true', Bool.not_eq_false', Int.not_lt, Int.not_le] at f11
      refine WR.val (Gt rfl rfl rfl h7) rfl rfl (.move rfl rfl) ?_
      refine WR.val (Gt rfl rfl rfl h7) rfl rfl (.lss rfl rfl rfl) ?_
      refine WR.val (G0 rfl) rfl rfl (.pick_f rfl rfl h7 rfl) ?_
      refine WR.val (G0 rfl) rfl rfl (.move rfl rfl) ?_
      refine WR.split (d := 24) rfl (fun h13 => ?_) (fun h13 => ?_)
      · have f14 := h13
        try simp only [decide_eq_true_eq, decide_eq_false_iff_not, Bool.not_eq_true', Bool.not_eq_false', Int.not_lt, Int.not_le] at f14
        refine WR.off (Gf rfl rfl rfl h13) rfl rfl ?_
        refine WR.off (Gf rfl rfl rfl h13) rfl rfl ?_
        refine WR.off (Gf rfl rfl rfl h13) rfl rfl ?_
        refine WR.val (G0 rfl) rfl rfl (.pick_t rfl rfl h13 rfl) ?_
        refine WR.val (G0 rfl) rfl rfl (.move rfl rfl) ?_
        refine WR.off (Gf rfl rfl rfl rfl) rfl rfl ?_
        refine WR.off (Gf rfl rfl rfl rfl) rfl rfl ?_
        refine WR.off (Gf rfl rfl rfl rfl) rfl rfl ?_
        refine WR.off (Gf rfl rfl rfl rfl) rfl rfl ?_
        refine WR.off (Gf rfl rfl rfl rfl) rfl rfl ?_
        refine WR.val (G0 rfl) rfl rfl (.pick_t rfl rfl rfl rfl) ?_
        refine WR.dw (G0 rfl) rfl rfl (.callv (caps := []) rfl rfl rfl EN_117 (fun w hw => ewhenF _ _ w)) ?_
        rintro _ _ ⟨rfl, rfl⟩
        refine WR.dw (G0 rfl) rfl rfl (.buildSlice (k := 1) (e := 29) (vs := [_, _]) rfl rfl rfl (fun _ => by kernel_rfl) rfl) ?_
        rintro _ _ ⟨b16, rfl, rfl⟩
        refine WR.dw (G0 rfl) rfl rfl (.callv (caps := []) rfl rfl rfl EN_115 (fun w hw => efirstF [_, _] _ _ w (hw.slf_blk 0 rfl rfl (by simp [maxLen])) (by simp))) ?_
        rintro _ _ ⟨rfl, rfl⟩
        refine WR.val (G0 rfl) rfl rfl (.assign rfl rfl) ?_
        refine WR.nil ?_
        exact WA.ret1 rfl rfl (List.nil_sublist _) ⟨by simp only [spanR, firstE_two, whenE, decide_eq_true_eq]; (repeat' split) <;> (first | rfl | omega | (exfalso; simp_all [firstE_two, whenE]; done) | (simp_all [firstE_two, whenE]; done) | (exfalso; simp_all [firstE_two, whenE]; omega) | (simp_all [firstE_two, whenE]; omega)), rfl⟩
      · have f17 := h13
        try simp only [decide_eq_true_eq, decide_eq_false_iff_not, Bool.not_eq_true', Bool.not_eq_false', Int.not_lt, Int.not_le] at f17
        refine WR.val (Gt rfl rfl rfl h13) rfl rfl (.move rfl rfl) ?_
        refine WR.val (Gt rfl rfl rfl h13) rfl rfl (.move rfl rfl) ?_
        refine WR.val (Gt rfl rfl rfl h13) rfl rfl (.gtr rfl rfl rfl) ?_
        refine WR.val (G0 rfl) rfl rfl (.pick_f rfl rfl h13 rfl) ?_
        refine WR.val (G0 rfl) rfl rfl (.move rfl rfl) ?_
        refine WR.split (d := 29) rfl (fun h19 => ?_) (fun h19 => ?_)
        · have f20 := h19
          try simp only [decide_eq_true_eq, decide_eq_false_iff_not, Bool.not_eq_true', Bool.not_eq_false', Int.not_lt, Int.not_le] at f20
          refine WR.off (Gf rfl rfl rfl h19) rfl rfl ?_
          refine WR.off (Gf rfl rfl rfl h19) rfl rfl ?_
          refine WR.off (Gf rfl rfl rfl h19) rfl rfl ?_
          refine WR.off (Gf rfl rfl rfl h19) rfl rfl ?_
          refine WR.off (Gf rfl rfl rfl h19) rfl rfl ?_
          refine WR.val (G0 rfl) rfl rfl (.pick_t rfl rfl h19 rfl) ?_
          refine WR.dw (G0 rfl) rfl rfl (.callv (caps := []) rfl rfl rfl EN_117 (fun w hw => ewhenF _ _ w)) ?_
          rintro _ _ ⟨rfl, rfl⟩
          refine WR.dw (G0 rfl) rfl rfl (.buildSlice (k := 1) (e := 29) (vs := [_, _]) rfl rfl rfl (fun _ => by kernel_rfl) rfl) ?_
          rintro _ _ ⟨b22, rfl, rfl⟩
          refine WR.dw (G0 rfl) rfl rfl (.callv (caps := []) rfl rfl rfl EN_115 (fun w hw => efirstF [_, _] _ _ w (hw.slf_blk 0 rfl rfl (by simp [maxLen])) (by simp))) ?_
          rintro _ _ ⟨rfl, rfl⟩
          refine WR.val (G0 rfl) rfl rfl (.assign rfl rfl) ?_
          refine WR.nil ?_
          exact WA.ret1 rfl rfl (List.nil_sublist _) ⟨by simp only [spanR, firstE_two, whenE, decide_eq_true_eq]; (repeat' split) <;> (first | rfl | omega | (exfalso; simp_all [firstE_two, whenE]; done) | (simp_all [firstE_two, whenE]; done) | (exfalso; simp_all [firstE_two, whenE]; omega) | (simp_all [firstE_two, whenE]; omega)), rfl⟩
        · have f23 := h19
          try simp only [decide_eq_true_eq, decide_eq_false_iff_not, Bool.not_eq_true', Bool.not_eq_false', Int.not_lt, Int.not_le] at f23
          refine WR.val (Gt rfl rfl rfl h19) rfl rfl (.move rfl rfl) ?_
          refine WR.val (Gt rfl rfl rfl h19) rfl rfl (.move rfl rfl) ?_
          refine WR.val (Gt rfl rfl rfl h19) rfl rfl (.move rfl rfl) ?_
          refine WR.val (Gt rfl rfl rfl h19) rfl rfl (.sub rfl rfl rfl (by omega) (by omega)) ?_
          refine WR.val (Gt rfl rfl rfl h19) rfl rfl (.gtr rfl rfl rfl) ?_
          refine WR.val (G0 rfl) rfl rfl (.pick_f rfl rfl h19 rfl) ?_
          refine WR.dw (G0 rfl) rfl rfl (.callv (caps := []) rfl rfl rfl EN_117 (fun w hw => ewhenF _ _ w)) ?_
          rintro _ _ ⟨rfl, rfl⟩
          refine WR.dw (G0 rfl) rfl rfl (.buildSlice (k := 1) (e := 29) (vs := [_, _]) rfl rfl rfl (fun _ => by kernel_rfl) rfl) ?_
          rintro _ _ ⟨b26, rfl, rfl⟩
          refine WR.dw (G0 rfl) rfl rfl (.callv (caps := []) rfl rfl rfl EN_115 (fun w hw => efirstF [_, _] _ _ w (hw.slf_blk 0 rfl rfl (by simp [maxLen])) (by simp))) ?_
          rintro _ _ ⟨rfl, rfl⟩
          refine WR.val (G0 rfl) rfl rfl (.assign rfl rfl) ?_
          refine WR.nil ?_
          exact WA.ret1 rfl rfl (List.nil_sublist _) ⟨by simp only [spanR, firstE_two, whenE, decide_eq_true_eq]; (repeat' split) <;> (first | rfl | omega | (exfalso; simp_all [firstE_two, whenE]; done) | (simp_all [firstE_two, whenE]; done) | (exfalso; simp_all [firstE_two, whenE]; omega) | (simp_all [firstE_two, whenE]; omega)), rfl⟩
theorem dotsOkF (l : List Nd) (A : Option Addr) (cap : Nat) (w : World) (hS : SlN w A l) (hl : l.length ≤ 400000) (a n : Int) (hz : spanR l a n = 0) : Ct Tryz.prog 118 #[.slice A l.length cap, .int .i64 a, .int .i64 (a + n)] [] w (fun u hs => ∃ B c, u = .tuple #[.slice B (cutK l a n).length c, .int .i64 0] ∧ hs = [En.row B (cutK l a n).length c 39 2 ((cutK l a n).flatMap dc)]) := by
  have h := idotsF l A cap w hS (by omega) a (a + n)
  rw [dotsR_ok hz] at h
  exact h
theorem killOkF (l : List Nd) (A : Option Addr) (cap : Nat) (w : World) (hS : SlN w A l) (hl : l.length ≤ 400000) (ds : List Dot) (A' : Option Addr) (cap' : Nat) (hD : SlD w A' ds) (hd : ds.length ≤ 400000) (hok : storeOk l = true) (hK : ∀ d ∈ ds, ∃ m ∈ l, m.d = d) : Ct Tryz.prog 119 #[.slice A l.length cap, .slice A' ds.length cap'] [] w (fun u hs => ∃ B c, u = .tuple #[.slice B (l.map (killK ds)).length c, .int .i64 0] ∧ hs = [En.row B (l.map (killK ds)).length c 42 6 ((l.map (killK ds)).flatMap nc)]) := by
  have h := killSF l A cap ds A' cap' w hS (by omega) hD (by omega)
  rw [killR_ok hok hK] at h
  exact h
theorem leftOkF (l : List Nd) (A : Option Addr) (cap : Nat) (w : World) (hS : SlN w A l) (hl : l.length ≤ 400000) (a : Int) (hok : storeOk l = true) (h0 : 0 ≤ a) (h1 : a ≤ (visN l).length) : Ct Tryz.prog 183 #[.slice A l.length cap, .int .i64 a] [] w (fun u hs => u = .tuple #[dv (parR l a), .int .i64 0] ∧ hs = []) := by
  have h := leftF l A cap w hS (by omega) a
  rw [leftR_ok hok h0 h1] at h
  exact h
theorem latestOkF (l : List Nd) (A : Option Addr) (cap : Nat) (w : World) (hS : SlN w A l) (hl : l.length ≤ 400000) (hok : storeOk l = true) : Ct Tryz.prog 51 #[.slice A l.length cap] [] w (fun u hs => u = .int .i64 (maxTime l) ∧ hs = []) := by
  have h := latestF l A cap w hS hl
  rw [latest_ok hok] at h
  exact h
theorem hasSF (K : List Dot) (A : Option Addr) (cap : Nat) (d : Dot) (w : World) (hS : SlD w A (dset K)) (hl : (dset K).length ≤ 1000000) (hn : K.Nodup) (hg : Proofs.Enters Tryz.prog 107) : Ct Tryz.prog 121 #[.slice A (dset K).length cap, dv d, .func (.func 107) #[] #[]] [] w (fun u hs => u = .tuple #[.int .i64 (lbn (fun x => dcmp x d) (dset K)), .bool (decide (d ∈ K))] ∧ hs = []) := by
  have h := bsFD (dset K) A cap d 107 [] (fun x => dcmp x d) w hS hl (mono_id (dset_sorted hn) d) hg (fun x _ W _ => dcmpF x d W)
  rw [bsf_id (dset_sorted hn), decide_eq_decide.2 dset_mem] at h
  exact h
set_option maxRecDepth 20000 in
/-- redpencil/edit.Delete -/
theorem deleteEF (l : List Nd) (A : Option Addr) (cap : Nat) (w : World) (hS : SlN w A l) (hl : l.length ≤ 400000) (a n : Int) : Ct Tryz.prog 47 #[.slice A l.length cap, .int .i64 a, .int .i64 n] [] w (fun u hs => ∃ B c, u = .tuple #[.slice B (deleteR l a n).1.length c, .int .i64 (deleteR l a n).2] ∧ hs = [En.row B (deleteR l a n).1.length c 42 6 ((deleteR l a n).1.flatMap nc)]) := by
  refine Ct.intro Tryz.func47 rfl Tryz.ntmps47 rfl ?_
  refine WA.seq ?_
  refine WA.region ?_
  refine WR.val (G0 rfl) rfl rfl (.assign rfl rfl) ?_
  refine WR.val (G0 rfl) rfl rfl (.assign rfl rfl) ?_
  refine WR.nil ?_
  refine WA.seq ?_
  refine WA.seq ?_
  refine WA.region ?_
  refine WR.val (G0 rfl) rfl rfl (.move rfl rfl) ?_
  refine WR.val (G0 rfl) rfl rfl (.move rfl rfl) ?_
  refine WR.val (G0 rfl) rfl rfl (.move rfl rfl) ?_
  refine WR.dw (G0 rfl) rfl rfl (.callv (caps := []) rfl rfl rfl EN_116 (fun w hw => spanF _ _ _ _ (hw.slf0 hS) (by first | omega | (simp; omega)) _ _)) ?_
  rintro _ _ ⟨rfl, rfl⟩
  refine WR.val (G0 rfl) rfl rfl (.move rfl rfl) ?_
  refine WR.val (G0 rfl) rfl rfl (.gtr rfl rfl rfl) ?_
  refine WR.dw (G0 rfl) rfl rfl (.callv (caps := []) rfl rfl rfl EN_117 (fun w hw => ewhenF _ _ w)) ?_
  rintro _ _ ⟨rfl, rfl⟩
  refine WR.dw (G0 rfl) rfl rfl (.buildSlice (k := 1) (e := 29) (vs := [_, _]) rfl rfl rfl (fun _ => by kernel_rfl) rfl) ?_
  rintro _ _ ⟨b3, rfl, rfl⟩
  refine WR.dw (G0 rfl) rfl rfl (.callv (caps := []) rfl rfl rfl EN_115 (fun w hw => efirstF [_, _] _ _ w (hw.slf_blk 0 rfl rfl (by simp [maxLen])) (by simp))) ?_
  rintro _ _ ⟨rfl, rfl⟩
  refine WR.val (G0 rfl) rfl rfl (.assign rfl rfl) ?_
  refine WR.nil ?_
  refine WA.seq ?_
  refine WA.region ?_
  refine WR.val (G0 rfl) rfl rfl (.move rfl rfl) ?_
  refine WR.val (G0 rfl) rfl rfl (.neq rfl rfl rfl) ?_
  refine WR.nil ?_
  refine WA.cond rfl (fun h5 => ?_) (fun h5 => ?_)
  · have f6 := h5
    try simp only [decide_eq_true_eq, decide_eq_false_iff_not, Bool.not_eq_true', Bool.not_eq_false', Int.not_lt, Int.not_le] at f6
    refine WA.seq ?_
    refine WA.region ?_
    refine WR.val (G0 rfl) rfl rfl (.move rfl rfl) ?_
    refine WR.val (G0 rfl) rfl rfl (.assign rfl rfl) ?_
    refine WR.val (G0 rfl) rfl rfl (.assign rfl rfl) ?_
    refine WR.nil ?_
    have hE : deleteR l a n = ([], firstE [spanR l a n, whenE (decide (10000 < n)) 5]) := by simp only [deleteR, firstE_two, whenE, decide_eq_true_eq]; (repeat' split) <;> (first | rfl | omega | (exfalso; simp_all [firstE_two, whenE]; done) | (simp_all [firstE_two, whenE]; done) | (exfalso; simp_all [firstE_two, whenE]; omega) | (simp_all [firstE_two, whenE]; omega))
    rw [hE]
    refine WA.nilrow 42 6 ?_
    exact WA.ret2 rfl rfl rfl (List.singleton_sublist.2 (List.mem_cons_self ..)) ⟨none, 0, rfl, rfl⟩
  · have f7 := h5
    try simp only [decide_eq_true_eq, decide_eq_false_iff_not, Bool.not_eq_true', Bool.not_eq_false', Int.not_lt, Int.not_le] at f7
    refine WA.skip ?_
    refine WA.seq ?_
    have hz2 := firstE_zero.1 ‹firstE _ = 0›
    have hz : spanR l a n = 0 := hz2 _ (by simp)
    have hw5 : whenE (decide (10000 < n)) 5 = 0 := hz2 _ (by simp)
    have hn5 : n ≤ 10000 := by simp only [whenE, decide_eq_true_eq] at hw5; split at hw5 <;> omega
    obtain ⟨hwl, ha0, hn0, hav, hnv⟩ := spanR_zero hz
    have hok := well_store hwl
    have hvl := visN_len hok
    have hKs := cutK_sub hok a n
    have hKn := cutK_nodup hok a n
    have hKl := cutK_len hok a n
    have hKd := (dset_perm (cutK l a n)).length_eq
    refine WA.region ?_
    refine WR.val (G0 rfl) rfl rfl (.move rfl rfl) ?_
    refine WR.val (G0 rfl) rfl rfl (.move rfl rfl) ?_
    refine WR.val (G0 rfl) rfl rfl (.move rfl rfl) ?_
    refine WR.val (G0 rfl) rfl rfl (.move rfl rfl) ?_
    refine WR.val (G0 rfl) rfl rfl (.add rfl rfl rfl (by omega) (by omega)) ?_
    refine WR.dw (G0 rfl) rfl rfl (.call0 (caps := []) rfl rfl rfl EN_118 (fun w hw => dotsOkF l A cap _ (hw.slf0 hS) hl a n hz)) ?_
    rintro _ _ ⟨_, ⟨v9, v10, rfl, rfl⟩, rfl⟩
    refine WR.val (G0 rfl) rfl rfl (.move rfl rfl) ?_
    refine WR.val (G0 rfl) rfl rfl (.extract (vs := [_, _]) rfl rfl rfl) ?_
    refine WR.val (G0 rfl) rfl rfl (.extract (vs := [_, _]) rfl rfl rfl) ?_
    refine WR.val (G0 rfl) rfl rfl (.assign rfl rfl) ?_
    refine WR.val (G0 rfl) rfl rfl (.assign rfl rfl) ?_
    refine WR.nil ?_
    refine WA.seq ?_
    refine WA.seq ?_
    refine WA.region ?_
    refine WR.val (G0 rfl) rfl rfl (.move rfl rfl) ?_
    refine WR.val (G0 rfl) rfl rfl (.neq rfl rfl rfl) ?_
    refine WR.val (G0 rfl) rfl rfl (.move rfl rfl) ?_
    refine WR.split (d := 40) rfl (fun h12 => ?_) (fun h12 => ?_)
    · have f13 := h12
      try simp only [decide_eq_true_eq, decide_eq_false_iff_not, Bool.not_eq_true', Bool.not_eq_false', Int.not_lt, Int.not_le] at f13
      refine WR.off (Gf rfl rfl rfl h12) rfl rfl ?_
      refine WR.off (Gf rfl rfl rfl h12) rfl rfl ?_
      refine WR.val (G0 rfl) rfl rfl (.pick_t rfl rfl h12 rfl) ?_
      refine WR.nil ?_
      refine WA.cond_t rfl rfl ?_
      refine WA.seq ?_
      refine WA.region ?_
      refine WR.val (G0 rfl) rfl rfl (.move rfl rfl) ?_
      refine WR.val (G0 rfl) rfl rfl (.assign rfl rfl) ?_
      refine WR.val (G0 rfl) rfl rfl (.assign rfl rfl) ?_
      refine WR.nil ?_
      have hE : deleteR l a n = ([], 0) := by
        first
        | (exfalso; simp_all; done)
        | (have hn0 : n = 0 := by simp_all
           unfold deleteR; rw [if_neg (by simp [hz]), if_neg (by omega), hn0, cutK_zero, goneF_nil])
      rw [hE]
      refine WA.nilrow 42 6 ?_
      exact WA.ret2 rfl rfl rfl (List.singleton_sublist.2 (List.mem_cons_self ..)) ⟨none, 0, rfl, rfl⟩
    · have f14 := h12
      try simp only [decide_eq_true_eq, decide_eq_false_iff_not, Bool.not_eq_true', Bool.not_eq_false', Int.not_lt, Int.not_le] at f14
      refine WR.val (Gt rfl rfl rfl h12) rfl rfl (.move rfl rfl) ?_
      refine WR.val (Gt rfl rfl rfl h12) rfl rfl (.eql rfl rfl rfl) ?_
      refine WR.val (G0 rfl) rfl rfl (.pick_f rfl rfl h12 rfl) ?_
      refine WR.nil ?_
      refine WA.cond rfl (fun h16 => ?_) (fun h16 => ?_)
      · have f17 := h16
        try simp only [decide_eq_true_eq, decide_eq_false_iff_not, Bool.not_eq_true', Bool.not_eq_false', Int.not_lt, Int.not_le] at f17
        refine WA.seq ?_
        refine WA.region ?_
        refine WR.val (G0 rfl) rfl rfl (.move rfl rfl) ?_
        refine WR.val (G0 rfl) rfl rfl (.assign rfl rfl) ?_
        refine WR.val (G0 rfl) rfl rfl (.assign rfl rfl) ?_
        refine WR.nil ?_
        have hE : deleteR l a n = ([], 0) := by
          first
          | (exfalso; simp_all; done)
          | (have hn0 : n = 0 := by simp_all
             unfold deleteR; rw [if_neg (by simp [hz]), if_neg (by omega), hn0, cutK_zero, goneF_nil])
        rw [hE]
        refine WA.nilrow 42 6 ?_
        exact WA.ret2 rfl rfl rfl (List.singleton_sublist.2 (List.mem_cons_self ..)) ⟨none, 0, rfl, rfl⟩
      · have f18 := h16
        try simp only [decide_eq_true_eq, decide_eq_false_iff_not, Bool.not_eq_true', Bool.not_eq_false', Int.not_lt, Int.not_le] at f18
        refine WA.skip ?_
        refine WA.seq ?_
        refine WA.region ?_
        refine WR.val (G0 rfl) rfl rfl (.move rfl rfl) ?_
        refine WR.val (G0 rfl) rfl rfl (.move rfl rfl) ?_
        refine WR.dw (G0 rfl) rfl rfl (.call0 (caps := []) rfl rfl rfl EN_119 (fun w hw => killOkF l A cap _ (hw.slf0 hS) hl (cutK l a n) _ _ (hw.slf_row 0 rfl) (by omega) hok hKs)) ?_
        rintro _ _ ⟨_, ⟨v20, v21, rfl, rfl⟩, rfl⟩
        refine WR.val (G0 rfl) rfl rfl (.move rfl rfl) ?_
        refine WR.val (G0 rfl) rfl rfl (.extract (vs := [_, _]) rfl rfl rfl) ?_
        refine WR.val (G0 rfl) rfl rfl (.extract (vs := [_, _]) rfl rfl rfl) ?_
        refine WR.val (G0 rfl) rfl rfl (.assign rfl rfl) ?_
        refine WR.val (G0 rfl) rfl rfl (.assign rfl rfl) ?_
        refine WR.nil ?_
        refine WA.seq ?_
        refine WA.seq ?_
        refine WA.region ?_
        refine WR.val (G0 rfl) rfl rfl (.move rfl rfl) ?_
        refine WR.val (G0 rfl) rfl rfl (.neq rfl rfl rfl) ?_
        refine WR.nil ?_
        refine WA.cond rfl (fun h23 => ?_) (fun h23 => ?_)
        · have f24 := h23
          try simp only [decide_eq_true_eq, decide_eq_false_iff_not, Bool.not_eq_true', Bool.not_eq_false', Int.not_lt, Int.not_le] at f24
          refine WA.seq ?_
          exfalso; simp_all
        · have f25 := h23
          try simp only [decide_eq_true_eq, decide_eq_false_iff_not, Bool.not_eq_true', Bool.not_eq_false', Int.not_lt, Int.not_le] at f25
          refine WA.skip ?_
          refine WA.seq ?_
          refine WA.region ?_
          refine WR.val (G0 rfl) rfl rfl (.move rfl rfl) ?_
          refine WR.dw (G0 rfl) rfl rfl (.call0 (caps := []) rfl rfl rfl EN_120 (fun w hw => setDF (cutK l a n) _ _ _ (hw.slf_row 1 rfl) (by omega) hKn)) ?_
          rintro _ _ ⟨_, ⟨v27, v28, rfl, rfl⟩, rfl⟩
          refine WR.val (G0 rfl) rfl rfl (.assign rfl rfl) ?_
          refine WR.nil ?_
          refine WA.seq ?_
          refine WA.region ?_
          refine WR.val (G0 rfl) rfl rfl (.assign rfl rfl) ?_
          refine WR.nilrow 42 6 ?_
          refine WR.nil ?_
          refine WA.seq ?_
          refine WA.seq ?_
          refine WA.region ?_
          refine WR.val (G0 rfl) rfl rfl (.move rfl rfl) ?_
          refine WR.val (G0 rfl) rfl rfl (.len rfl ST_22.1 rfl) ?_
          refine WR.val (G0 rfl) rfl rfl (.move rfl rfl) ?_
          refine WR.nil ?_
          refine WA.block ?_
          refine WA.loopK (γ := Nat × Option Addr × Nat) [(6, _), (7, _), (9, _), (56, _), (57, _)] [_, _, _, _] (fun q => [(12, .slice q.2.1 (((l.map (killK (cutK l a n))).take q.1).filter (fun x => decide (x.d ∈ (cutK l a n)))).length q.2.2), (58, .int .i64 (q.1 : Int))]) (fun q => [En.row q.2.1 (((l.map (killK (cutK l a n))).take q.1).filter (fun x => decide (x.d ∈ (cutK l a n)))).length q.2.2 42 6 ((((l.map (killK (cutK l a n))).take q.1).filter (fun x => decide (x.d ∈ (cutK l a n)))).flatMap nc)]) (fun q => q.1 ≤ (l.map (killK (cutK l a n))).length) (fun q => (l.map (killK (cutK l a n))).length - q.1) (0, none, 0) (.cons rfl (.cons rfl (.cons rfl (.cons rfl (.cons rfl (.nil _)))))) (.cons rfl (.cons rfl (.nil _))) (.refl _) (by simp) ?_
          intro q hk
          have hLl : (l.map (killK (cutK l a n))).length = l.length := by simp
          have hfl := List.length_filter_le (fun x => decide (x.d ∈ (cutK l a n))) ((l.map (killK (cutK l a n))).take q.1)
          have htl := List.length_take_le q.1 (l.map (killK (cutK l a n)))
          refine WA.seq ?_
          refine WA.region ?_
          refine WR.val (G0 rfl) rfl rfl (.lss rfl rfl rfl) ?_
          refine WR.nil ?_
          refine WA.seq ?_
          refine WA.cond rfl (fun h31 => ?_) (fun h31 => ?_)
          · have f32 := h31
            try simp only [decide_eq_true_eq, decide_eq_false_iff_not, Bool.not_eq_true', Bool.not_eq_false', Int.not_lt, Int.not_le] at f32
            refine WA.skip ?_
            refine WA.seq ?_
            refine WA.block ?_
            refine WA.seq ?_
            refine WA.region ?_
            refine WR.val (G0 rfl) rfl rfl (.ix rfl ST_22 rfl rfl (by omega) (by omega) (fun _ hw hn => (hw.slf_row 2 rfl).some_ hn)) ?_
            refine WR.val (G0 rfl) rfl rfl (.loadK (vs := [_, _, _, _, _, _]) rfl AG_42 rfl (fun _ hw => rdN (hw.slf_row 2 rfl) (by omega) (by omega))) ?_
            refine WR.dw (G0 rfl) rfl rfl (.alloc (vs := [_, _, _, _, _, _]) rfl ZT_42 rfl) ?_
            rintro _ _ ⟨b34, rfl, rfl⟩
            refine WR.dw0 (G0 rfl) rfl (.store (i := 0) rfl AG_42.2 rfl rfl [_, _, _, _, _, _] rfl rfl (by intro u hu; simp at hu; rcases hu with rfl | rfl | rfl | rfl | rfl | rfl <;> rfl) rfl rfl) ?_
            rintro _ _ ⟨rfl, rfl⟩
            refine WR.nil ?_
            refine WA.seq ?_
            refine WA.region ?_
            refine WR.val (G0 rfl) rfl rfl (.move rfl rfl) ?_
            refine WR.val (G0 rfl) rfl rfl (.fa rfl FA_42_0 rfl) ?_
            refine WR.val (G0 rfl) rfl rfl (.loadK (vs := [_, _]) rfl AG_39 rfl (fun _ hw => hw.rd_blk (k := 2) 0 rfl rfl)) ?_
            refine WR.dw (G0 rfl) rfl rfl (.callv (caps := []) rfl rfl rfl EN_121 (fun w hw => hasSF (cutK l a n) _ _ _ _ (hw.slf_row 2 rfl) (by rw [hKd]; omega) hKn EN_107)) ?_
            rintro _ _ ⟨rfl, rfl⟩
            refine WR.val (G0 rfl) rfl rfl (.move rfl rfl) ?_
            refine WR.val (G0 rfl) rfl rfl (.extract (vs := [_, _]) rfl rfl rfl) ?_
            refine WR.val (G0 rfl) rfl rfl (.extract (vs := [_, _]) rfl rfl rfl) ?_
            refine WR.val (G0 rfl) rfl rfl (.assign rfl rfl) ?_
            refine WR.val (G0 rfl) rfl rfl (.assign rfl rfl) ?_
            refine WR.nil ?_
            refine WA.seq ?_
            refine WA.region ?_
            refine WR.val (G0 rfl) rfl rfl (.move rfl rfl) ?_
            refine WR.nil ?_
            refine WA.cond rfl (fun h36 => ?_) (fun h36 => ?_)
            · have f37 := h36
              try simp only [decide_eq_true_eq, decide_eq_false_iff_not, Bool.not_eq_true', Bool.not_eq_false', Int.not_lt, Int.not_le] at f37
              refine WA.region ?_
              refine WR.val (G0 rfl) rfl rfl (.move rfl rfl) ?_
              refine WR.val (G0 rfl) rfl rfl (.loadK (vs := [_, _, _, _, _, _]) rfl AG_42 rfl (fun _ hw => hw.rd_blk (k := 6) 0 rfl rfl)) ?_
              refine WR.dw (G0 rfl) rfl rfl (.buildSlice (k := 6) (e := 42) (vs := [_, _, _, _, _, _]) rfl rfl rfl (fun _ => by kernel_rfl) rfl) ?_
              rintro _ _ ⟨b39, rfl, rfl⟩
              refine WR.dw (G0 rfl) rfl rfl (.append 2 rfl ST_23.1 ZT_42 rfl (by decide) rfl rfl rfl (fun _ hw => hw.slf_blk 0 rfl rfl (by simp [maxLen])) (by intro u hu; simp at hu; rcases hu with rfl | rfl | rfl | rfl | rfl | rfl <;> rfl) (by omega) (by omega)) ?_
              rintro _ _ ⟨A40, c41, rfl, rfl⟩
              refine WR.val (G0 rfl) rfl rfl (.assign rfl rfl) ?_
              refine WR.nil ?_
              refine WA.mark ?_
              refine WA.region ?_
              refine WR.val (G0 rfl) rfl rfl (.add rfl rfl rfl (by omega) (by omega)) ?_
              refine WR.val (G0 rfl) rfl rfl (.move rfl rfl) ?_
              refine WR.nil ?_
              have hft := filter_take (fun x => decide (x.d ∈ (cutK l a n))) (l.map (killK (cutK l a n))) (k := q.1) (by omega)
              rw [if_pos (by simp_all)] at hft
              refine WA.roweq 2 rfl (((l.map (killK (cutK l a n))).take (q.1 + 1)).filter (fun x => decide (x.d ∈ (cutK l a n)))).length ((((l.map (killK (cutK l a n))).take (q.1 + 1)).filter (fun x => decide (x.d ∈ (cutK l a n)))).flatMap nc) (by rw [hft]; simp) (by rw [hft, flat_snoc]) ?_
              exact WA.roundK (q.1 + 1, A40, c41) (.cons rfl (.cons rfl (.cons rfl (.cons rfl (.cons rfl (.nil _)))))) (.cons (Eq.trans (b := some (.slice A40 ((((l.map (killK (cutK l a n))).take q.1).filter (fun x => decide (x.d ∈ (cutK l a n)))).length + 1) c41)) rfl (by rw [hft, List.length_append]; rfl)) (.cons rfl (.nil _))) (.cons _ (.cons _ (.refl _))) (by dsimp only; omega) (by dsimp only; omega)
            · have f42 := h36
              try simp only [decide_eq_true_eq, decide_eq_false_iff_not, Bool.not_eq_true', Bool.not_eq_false', Int.not_lt, Int.not_le] at f42
              refine WA.skip ?_
              refine WA.mark ?_
              refine WA.region ?_
              refine WR.val (G0 rfl) rfl rfl (.add rfl rfl rfl (by omega) (by omega)) ?_
              refine WR.val (G0 rfl) rfl rfl (.move rfl rfl) ?_
              refine WR.nil ?_
              have hft := filter_take (fun x => decide (x.d ∈ (cutK l a n))) (l.map (killK (cutK l a n))) (k := q.1) (by omega)
              rw [if_neg (by simp_all), List.append_nil] at hft
              refine WA.roweq 1 rfl (((l.map (killK (cutK l a n))).take (q.1 + 1)).filter (fun x => decide (x.d ∈ (cutK l a n)))).length ((((l.map (killK (cutK l a n))).take (q.1 + 1)).filter (fun x => decide (x.d ∈ (cutK l a n)))).flatMap nc) (by rw [hft]) (by rw [hft]) ?_
              exact WA.roundK (q.1 + 1, q.2.1, q.2.2) (.cons rfl (.cons rfl (.cons rfl (.cons rfl (.cons rfl (.nil _)))))) (.cons (Eq.trans (b := some (.slice q.2.1 (((l.map (killK (cutK l a n))).take q.1).filter (fun x => decide (x.d ∈ (cutK l a n)))).length q.2.2)) rfl (by rw [hft])) (.cons rfl (.nil _))) (.cons _ (.refl _)) (by dsimp only; omega) (by dsimp only; omega)
          · have f43 := h31
            try simp only [decide_eq_true_eq, decide_eq_false_iff_not, Bool.not_eq_true', Bool.not_eq_false', Int.not_lt, Int.not_le] at f43
            refine WA.exit rfl ?_
            refine WA.seq ?_
            refine WA.region ?_
            refine WR.val (G0 rfl) rfl rfl (.move rfl rfl) ?_
            refine WR.val (G0 rfl) rfl rfl (.assign rfl rfl) ?_
            refine WR.val (G0 rfl) rfl rfl (.assign rfl rfl) ?_
            refine WR.nil ?_
            have hE : deleteR l a n = (goneF l (cutK l a n), 0) := by unfold deleteR; rw [if_neg (by simp [hz]), if_neg (by omega)]
            rw [hE]
            have hft : ((l.map (killK (cutK l a n))).take q.1).filter (fun x => decide (x.d ∈ (cutK l a n))) = goneF l (cutK l a n) := by rw [List.take_of_length_le (by omega), goneF_eq]
            refine WA.roweq 0 rfl (goneF l (cutK l a n)).length ((goneF l (cutK l a n)).flatMap nc) (by rw [hft]) (by rw [hft]) ?_
            exact WA.ret2 rfl rfl rfl (.cons_cons _ (.cons _ (.cons _ (.cons _ (.cons _ .slnil))))) ⟨_, _, by rw [hft], rfl⟩
set_option maxRecDepth 20000 in
/-- redpencil/edit.chain$1 -/
theorem echain1F (n : Nd) (d : Dot) (w : World) : Ct Tryz.prog 185 #[nv n, dv d] [] w (fun u hs => u = .int .i64 (dcmp n.d d) ∧ hs = []) := by
  refine Ct.intro Tryz.func185 rfl Tryz.ntmps185 rfl ?_
  refine WA.seq ?_
  refine WA.region ?_
  refine WR.dw (G0 rfl) rfl rfl (.box (vs := [_, _, _, _, _, _]) rfl rfl rfl) ?_
  rintro _ _ ⟨b2, rfl, rfl⟩
  refine WR.dw (G0 rfl) rfl rfl (.box (vs := [_, _]) rfl rfl rfl) ?_
  rintro _ _ ⟨b4, rfl, rfl⟩
  refine WR.val (G0 rfl) rfl rfl (.assign rfl rfl) ?_
  refine WR.nil ?_
  refine WA.seq ?_
  refine WA.region ?_
  refine WR.val (G0 rfl) rfl rfl (.fa rfl FA_42_0 rfl) ?_
  refine WR.val (G0 rfl) rfl rfl (.loadK (vs := [_, _]) rfl AG_39 rfl (fun _ hw => hw.rd_blk (k := 2) 1 rfl rfl)) ?_
  refine WR.val (G0 rfl) rfl rfl (.loadK (vs := [_, _]) rfl AG_39 rfl (fun _ hw => hw.rd_blk (k := 2) 0 rfl rfl)) ?_
  refine WR.dw (G0 rfl) rfl rfl (.callv (caps := []) rfl rfl rfl EN_107 (fun w hw => dcmpF _ _ w)) ?_
  rintro _ _ ⟨rfl, rfl⟩
  refine WR.val (G0 rfl) rfl rfl (.assign rfl rfl) ?_
  refine WR.nil ?_
  exact WA.ret1 rfl rfl (List.nil_sublist _) ⟨rfl, rfl⟩
set_option maxRecDepth 20000 in
/-- redpencil/edit.chain -/
theorem chainEF (l : List Nd) (A : Option Addr) (cap : Nat) (w : World) (hS : SlN w A l) (hl : l.length ≤ 400000) (d : Dot) (a : Int) (r : List Int) (A' : Option Addr) (cap' : Nat) (hR : SlR w A' r) (hr : r.length ≤ 10000) (hok : storeOk l = true) (ha0 : 0 ≤ a) (hav : a ≤ (visN l).length) (hd0 : 0 ≤ d.c) (hd : d.c + r.length ≤ 4294967296) (ht : maxTime l + r.length ≤ 4611686018427387904) : Ct Tryz.prog 126 #[.slice A l.length cap, dv d, .int .i64 a, .slice A' r.length cap'] [] w (fun u hs => ∃ B c, u = .tuple #[.slice B (chainR l d a r).1.length c, .int .i64 (chainR l d a r).2] ∧ hs = [En.row B (chainR l d a r).1.length c 42 6 ((chainR l d a r).1.flatMap nc)]) := by
  refine Ct.intro Tryz.func126 rfl Tryz.ntmps126 rfl ?_
  refine WA.seq ?_
  refine WA.region ?_
  refine WR.dw (G0 rfl) rfl rfl (.box (vs := [_, _]) rfl rfl rfl) ?_
  rintro _ _ ⟨b2, rfl, rfl⟩
  refine WR.val (G0 rfl) rfl rfl (.assign rfl rfl) ?_
  refine WR.val (G0 rfl) rfl rfl (.assign rfl rfl) ?_
  refine WR.nil ?_
  refine WA.seq ?_
  have hm0 := maxTime_nonneg l
  have hso := storeOk_sorted hok
  refine WA.region ?_
  refine WR.val (G0 rfl) rfl rfl (.move rfl rfl) ?_
  refine WR.val (G0 rfl) rfl rfl (.move rfl rfl) ?_
  refine WR.dw (G0 rfl) rfl rfl (.callv (caps := []) rfl rfl rfl EN_183 (fun w hw => leftOkF l A cap _ (hw.slf0 hS) hl a hok ha0 hav)) ?_
  rintro _ _ ⟨rfl, rfl⟩
  refine WR.val (G0 rfl) rfl rfl (.move rfl rfl) ?_
  refine WR.val (G0 rfl) rfl rfl (.extract (vs := [_, _]) rfl rfl rfl) ?_
  refine WR.val (G0 rfl) rfl rfl (.extract (vs := [_, _]) rfl rfl rfl) ?_
  refine WR.dw (G0 rfl) rfl rfl (.alloc (vs := [_, _]) rfl ZT_39 rfl) ?_
  rintro _ _ ⟨b4, rfl, rfl⟩
  refine WR.dw0 (G0 rfl) rfl (.store (i := 0) rfl AG_39.2 rfl rfl [_, _] rfl rfl (by intro u hu; simp at hu; rcases hu with rfl | rfl <;> rfl) rfl rfl) ?_
  rintro _ _ ⟨rfl, rfl⟩
  refine WR.val (G0 rfl) rfl rfl (.assign rfl rfl) ?_
  refine WR.nil ?_
  refine WA.seq ?_
  refine WA.seq ?_
  refine WA.region ?_
  refine WR.val (G0 rfl) rfl rfl (.move rfl rfl) ?_
  refine WR.val (G0 rfl) rfl rfl (.neq rfl rfl rfl) ?_
  refine WR.nil ?_
  refine WA.cond rfl (fun h6 => ?_) (fun h6 => ?_)
  · have f7 := h6
    try simp only [decide_eq_true_eq, decide_eq_false_iff_not, Bool.not_eq_true', Bool.not_eq_false', Int.not_lt, Int.not_le] at f7
    refine WA.seq ?_
    exfalso; simp_all
  · have f8 := h6
    try simp only [decide_eq_true_eq, decide_eq_false_iff_not, Bool.not_eq_true', Bool.not_eq_false', Int.not_lt, Int.not_le] at f8
    refine WA.skip ?_
    refine WA.seq ?_
    refine WA.region ?_
    refine WR.val (G0 rfl) rfl rfl (.move rfl rfl) ?_
    refine WR.dw (G0 rfl) rfl rfl (.callv (caps := []) rfl rfl rfl EN_51 (fun w hw => latestOkF l A cap _ (hw.slf0 hS) hl hok)) ?_
    rintro _ _ ⟨rfl, rfl⟩
    refine WR.val (G0 rfl) rfl rfl (.assign rfl rfl) ?_
    refine WR.nil ?_
    refine WA.seq ?_
    refine WA.region ?_
    refine WR.val (G0 rfl) rfl rfl (.assign rfl rfl) ?_
    refine WR.nilrow 42 6 ?_
    refine WR.nil ?_
    refine WA.seq ?_
    refine WA.seq ?_
    refine WA.region ?_
    refine WR.val (G0 rfl) rfl rfl (.move rfl rfl) ?_
    refine WR.val (G0 rfl) rfl rfl (.len rfl ST_63.1 rfl) ?_
    refine WR.val (G0 rfl) rfl rfl (.move rfl rfl) ?_
    refine WR.nil ?_
    refine WA.block ?_
    refine WA.loopK (γ := Nat × Option Addr × Nat) [(0, _), (3, _), (5, _), (10, _), (12, _), (30, _)] [_] (fun q => [(13, .slice q.2.1 q.1 q.2.2), (31, .int .i64 (q.1 : Int))]) (fun q => [En.row q.2.1 q.1 q.2.2 42 6 (((chainF d (parR l a) (maxTime l + 1) r).take q.1).flatMap nc), En.blk b4 (dc (chainN d (parR l a) (maxTime l + 1) r q.1).p) 39]) (fun q => q.1 ≤ r.length ∧ ∀ i, i < q.1 → ¬ (⟨d.r, d.c + (i : Int)⟩ : Dot) ∈ l.map Nd.d) (fun q => r.length - q.1) (0, none, 0) (.cons rfl (.cons rfl (.cons rfl (.cons rfl (.cons rfl (.cons rfl (.nil _))))))) (.cons rfl (.cons rfl (.nil _))) (.refl _) ⟨by simp, fun _ h => by simp at h⟩ ?_
    intro q hk
    obtain ⟨hk, hnb⟩ := hk
    refine WA.seq ?_
    refine WA.region ?_
    refine WR.val (G0 rfl) rfl rfl (.lss rfl rfl rfl) ?_
    refine WR.nil ?_
    refine WA.seq ?_
    refine WA.cond rfl (fun h11 => ?_) (fun h11 => ?_)
    · have f12 := h11
      try simp only [decide_eq_true_eq, decide_eq_false_iff_not, Bool.not_eq_true', Bool.not_eq_false', Int.not_lt, Int.not_le] at f12
      refine WA.skip ?_
      refine WA.seq ?_
      refine WA.block ?_
      refine WA.seq ?_
      refine WA.region ?_
      refine WR.val (G0 rfl) rfl rfl (.move rfl rfl) ?_
      refine WR.val (G0 rfl) rfl rfl (.assign rfl rfl) ?_
      refine WR.nil ?_
      refine WA.seq ?_
      refine WA.draws0 follows ?_
      refine WH.take 0 rfl (Pf_blind _ _ _ _ _) (by kernel_rfl) (by kernel_rfl) (by kernel_rfl) (.refl _) (G0 rfl) rfl rfl (.fa rfl FA_39_0 rfl) ?_
      refine WH.take 1 rfl (Pf_blind _ _ _ _ _) (by kernel_rfl) (by kernel_rfl) (by kernel_rfl) (.refl _) (G0 rfl) rfl rfl (.load1 rfl NA_3 rfl (fun _ hw => hw.rd_blk (k := 1) 2 rfl rfl)) ?_
      refine WH.take 2 rfl (Pf_blind _ _ _ _ _) (by kernel_rfl) (by kernel_rfl) (by kernel_rfl) (.refl _) (G0 rfl) rfl rfl (.fa rfl FA_39_1 rfl) ?_
      refine WH.take 3 rfl (Pf_blind _ _ _ _ _) (by kernel_rfl) (by kernel_rfl) (by kernel_rfl) (.refl _) (G0 rfl) rfl rfl (.load1 rfl NA_3 rfl (fun _ hw => hw.rd_blk (k := 1) 2 rfl rfl)) ?_
      refine WH.take 4 rfl (Pf_blind _ _ _ _ _) (by kernel_rfl) (by kernel_rfl) (by kernel_rfl) (.refl _) (G0 rfl) rfl rfl (.move rfl rfl) ?_
      refine WH.take 5 rfl (Pf_blind _ _ _ _ _) (by kernel_rfl) (by kernel_rfl) (by kernel_rfl) (.refl _) (G0 rfl) rfl rfl (.add rfl rfl rfl (by omega) (by omega)) ?_
      refine WH.take 6 rfl (Pf_blind _ _ _ _ _) (by kernel_rfl) (by kernel_rfl) (by kernel_rfl) (.refl _) (G0 rfl) rfl rfl (.build (vs := [_, _]) [.int .i64 0, .int .i64 0] [0, 1] rfl rfl rfl (fun _ => by kernel_rfl)) ?_
      refine WH.take 7 rfl (Pf_blind _ _ _ _ _) (by kernel_rfl) (by kernel_rfl) (by kernel_rfl) (.refl _) (G0 rfl) rfl rfl (.loadK (vs := [_, _]) rfl AG_39 rfl (fun _ hw => hw.rd_blk (k := 2) 1 rfl rfl)) ?_
      refine WH.take 8 rfl (Pf_blind _ _ _ _ _) (by kernel_rfl) (by kernel_rfl) (by kernel_rfl) (.refl _) (G0 rfl) rfl rfl (.move rfl rfl) ?_
      refine WH.take 9 rfl (Pf_blind _ _ _ _ _) (by kernel_rfl) (by kernel_rfl) (by kernel_rfl) (.refl _) (G0 rfl) rfl rfl (.add rfl rfl rfl (by omega) (by omega)) ?_
      refine WH.take 10 rfl (Pf_blind _ _ _ _ _) (by kernel_rfl) (by kernel_rfl) (by kernel_rfl) (.refl _) (G0 rfl) rfl rfl (.move rfl rfl) ?_
      refine WH.take 11 rfl (Pf_blind _ _ _ _ _) (by kernel_rfl) (by kernel_rfl) (by kernel_rfl) (.refl _) (G0 rfl) rfl rfl (.add rfl rfl rfl (by omega) (by omega)) ?_
      refine WH.take 12 rfl (Pf_blind _ _ _ _ _) (by kernel_rfl) (by kernel_rfl) (by kernel_rfl) (.refl _) (G0 rfl) rfl rfl (.move rfl rfl) ?_
      refine WH.take 13 rfl (Pf_blind _ _ _ _ _) (by kernel_rfl) (by kernel_rfl) (by kernel_rfl) (.refl _) (G0 rfl) rfl rfl (.move rfl rfl) ?_
      refine WH.take 14 rfl (Pf_blind _ _ _ _ _) (by kernel_rfl) (by kernel_rfl) (by kernel_rfl) (.refl _) (G0 rfl) rfl rfl (.ix rfl ST_63 rfl rfl (by omega) (by omega) (fun _ hw hn => (hw.slf0 hR).some_ hn)) ?_
      refine WH.take 15 rfl (Pf_blind _ _ _ _ _) (by kernel_rfl) (by kernel_rfl) (by kernel_rfl) (.refl _) (G0 rfl) rfl rfl (.load1 rfl NA_21 rfl (fun _ hw => rdR (hw.slf0 hR) (by omega) (by omega))) ?_
      refine WH.take 16 rfl (Pf_blind _ _ _ _ _) (by kernel_rfl) (by kernel_rfl) (by kernel_rfl) (.refl _) (G0 rfl) rfl rfl (.build (vs := [_, _, _, _, _, _]) [.int .i64 0, .int .i64 0, .int .i64 0, .int .i64 0, .int .i64 0, .int .i32 0] [0, 2, 4, 5] rfl rfl rfl (fun _ => by kernel_rfl)) ?_
      refine WH.dw 17 rfl (by kernel_rfl) (G0 rfl) rfl rfl (.alloc (vs := [_, _, _, _, _, _]) rfl ZT_42 rfl) ?_
      rintro _ _ ⟨b16, rfl, rfl⟩
      refine ⟨(.cons _ (.refl _)), ?_⟩
      refine WH.dw0 18 rfl (by kernel_rfl) (G0 rfl) rfl (.store (i := 0) rfl AG_42.2 rfl rfl [_, _, _, _, _, _] rfl rfl (by intro u hu; simp at hu; rcases hu with rfl | rfl | rfl | rfl | rfl | rfl <;> rfl) rfl rfl) ?_
      rintro _ _ ⟨rfl, rfl⟩
      refine ⟨(.cons _ (.refl _)), ?_⟩
      refine WH.done (by kernel_rfl) ?_
      refine WA.seq ?_
      refine WA.seq ?_
      refine WA.region ?_
      refine WR.val (G0 rfl) rfl rfl (.move rfl rfl) ?_
      refine WR.val (G0 rfl) rfl rfl (.fa rfl FA_42_0 rfl) ?_
      refine WR.val (G0 rfl) rfl rfl (.loadK (vs := [_, _]) rfl AG_39 rfl (fun _ hw => hw.rd_blk (k := 2) 0 rfl rfl)) ?_
      refine WR.dw (G0 rfl) rfl rfl (.callv (caps := []) rfl rfl rfl EN_184 (fun w hw => bsFS l A cap ⟨d.r, d.c + (q.1 : Int)⟩ 185 [] (fun n => dcmp n.d ⟨d.r, d.c + (q.1 : Int)⟩) _ (hw.slf0 hS) (by omega) (mono_sorted hso _) EN_185 (fun x _ W _ => echain1F x _ W))) ?_
      rintro _ _ ⟨rfl, rfl⟩
      refine WR.val (G0 rfl) rfl rfl (.move rfl rfl) ?_
      refine WR.val (G0 rfl) rfl rfl (.extract (vs := [_, _]) rfl rfl rfl) ?_
      refine WR.val (G0 rfl) rfl rfl (.extract (vs := [_, _]) rfl rfl rfl) ?_
      refine WR.val (G0 rfl) rfl rfl (.assign rfl rfl) ?_
      refine WR.val (G0 rfl) rfl rfl (.assign rfl rfl) ?_
      refine WR.nil ?_
      refine WA.seq ?_
      refine WA.region ?_
      refine WR.val (G0 rfl) rfl rfl (.move rfl rfl) ?_
      refine WR.nil ?_
      refine WA.cond rfl (fun h18 => ?_) (fun h18 => ?_)
      · have f19 := h18
        try simp only [decide_eq_true_eq, decide_eq_false_iff_not, Bool.not_eq_true', Bool.not_eq_false', Int.not_lt, Int.not_le] at f19
        refine WA.seq ?_
        refine WA.region ?_
        refine WR.val (G0 rfl) rfl rfl (.assign rfl rfl) ?_
        refine WR.val (G0 rfl) rfl rfl (.assign rfl rfl) ?_
        refine WR.nil ?_
        have hbs := bsf_sorted hso (⟨d.r, d.c + (q.1 : Int)⟩ : Dot)
        have hE : chainR l d a r = ([], 11) := if_pos (busy_iff (k := q.1) (by omega) (by simp_all))
        rw [hE]
        refine WA.nilrow 42 6 ?_
        exact WA.ret2 rfl rfl rfl (List.singleton_sublist.2 (List.mem_cons_self ..)) ⟨none, 0, rfl, rfl⟩
      · have f20 := h18
        try simp only [decide_eq_true_eq, decide_eq_false_iff_not, Bool.not_eq_true', Bool.not_eq_false', Int.not_lt, Int.not_le] at f20
        refine WA.skip ?_
        refine WA.drawsE2 follows 1 1 ?_
        refine WH.take 0 rfl (Pf_blind _ _ _ _ _) (by kernel_rfl) (by kernel_rfl) (by kernel_rfl) (.cons_cons _ (.cons _ (.cons _ (.refl _)))) (G0 rfl) rfl rfl (.move rfl rfl) ?_
        refine WH.take 1 rfl (Pf_blind _ _ _ _ _) (by kernel_rfl) (by kernel_rfl) (by kernel_rfl) (.cons_cons _ (.cons _ (.cons _ (.refl _)))) (G0 rfl) rfl rfl (.loadK (vs := [_, _, _, _, _, _]) rfl AG_42 rfl (fun _ hw => hw.rd_blk (k := 6) 0 rfl rfl)) ?_
        refine WH.take 4 rfl (Pf_blind _ _ _ _ _) (by kernel_rfl) (by kernel_rfl) (by kernel_rfl) (.cons_cons _ (.cons _ (.cons _ (.refl _)))) (G0 rfl) rfl rfl (.fa rfl FA_42_0 rfl) ?_
        refine WH.take 5 rfl (Pf_blind _ _ _ _ _) (by kernel_rfl) (by kernel_rfl) (by kernel_rfl) (.cons_cons _ (.cons _ (.cons _ (.refl _)))) (G0 rfl) rfl rfl (.loadK (vs := [_, _]) rfl AG_39 rfl (fun _ hw => hw.rd_blk (k := 2) 0 rfl rfl)) ?_
        refine WH.dw 2 rfl (by kernel_rfl) (G0 rfl) rfl rfl (.buildSlice (k := 6) (e := 42) (vs := [_, _, _, _, _, _]) rfl rfl rfl (fun _ => by kernel_rfl) rfl) ?_
        rintro _ _ ⟨b28, rfl, rfl⟩
        refine ⟨(.cons _ (.cons_cons _ (.cons _ (.cons _ (.refl _))))), ?_⟩
        refine WH.dw 3 rfl (by kernel_rfl) (G0 rfl) rfl rfl (.append 2 rfl ST_23.1 ZT_42 rfl (by decide) rfl rfl rfl (fun _ hw => hw.slf_blk 0 rfl rfl (by simp [maxLen])) (by intro u hu; simp at hu; rcases hu with rfl | rfl | rfl | rfl | rfl | rfl <;> rfl) (by omega) (by omega)) ?_
        rintro _ _ ⟨A31, c32, rfl, rfl⟩
        refine ⟨(.cons _ (.cons_cons _ (.cons _ (.cons _ (.refl _))))), ?_⟩
        refine WH.take 6 rfl (Pf_blind _ _ _ _ _) (by kernel_rfl) (by kernel_rfl) (by kernel_rfl) (.cons _ (.cons_cons _ (.cons _ (.cons _ (.refl _))))) (G0 rfl) rfl rfl (.assign rfl rfl) ?_
        refine WH.dw0 7 rfl (by kernel_rfl) (G0 rfl) rfl (.store (i := 3) rfl AG_39.2 rfl rfl [_, _] rfl rfl (by intro u hu; simp at hu; rcases hu with rfl | rfl <;> rfl) rfl rfl) ?_
        rintro _ _ ⟨rfl, rfl⟩
        refine ⟨(.cons _ (.cons_cons _ (.cons _ (.cons _ (.refl _))))), ?_⟩
        refine WH.done (by kernel_rfl) ?_
        refine WA.mark ?_
        refine WA.region ?_
        refine WR.val (G0 rfl) rfl rfl (.add rfl rfl rfl (by omega) (by omega)) ?_
        refine WR.val (G0 rfl) rfl rfl (.move rfl rfl) ?_
        refine WR.nil ?_
        refine WA.roweq 2 rfl (q.1 + 1) (((chainF d (parR l a) (maxTime l + 1) r).take (q.1 + 1)).flatMap nc) rfl (by rw [chain_take (by omega), flat_snoc]; rfl) ?_
        refine WA.blkeq 3 rfl (dc (chainN d (parR l a) (maxTime l + 1) r (q.1 + 1)).p) (by simp only [chainN, if_neg (Nat.succ_ne_zero q.1)]; rw [show d.c + ((q.1 + 1 : Nat) : Int) - 1 = d.c + (q.1 : Int) by omega]; rfl) ?_
        exact WA.roundK (q.1 + 1, A31, c32) (.cons rfl (.cons rfl (.cons rfl (.cons rfl (.cons rfl (.cons rfl (.nil _))))))) (.cons rfl (.cons rfl (.nil _))) (.cons _ (.cons _ (.refl _))) ⟨by dsimp only; omega, lt_snoc hnb (by have hbs := bsf_sorted hso (⟨d.r, d.c + (q.1 : Int)⟩ : Dot); simp_all)⟩ (by dsimp only; omega)
    · have f33 := h11
      try simp only [decide_eq_true_eq, decide_eq_false_iff_not, Bool.not_eq_true', Bool.not_eq_false', Int.not_lt, Int.not_le] at f33
      refine WA.exit rfl ?_
      refine WA.seq ?_
      refine WA.region ?_
      refine WR.val (G0 rfl) rfl rfl (.move rfl rfl) ?_
      refine WR.val (G0 rfl) rfl rfl (.assign rfl rfl) ?_
      refine WR.val (G0 rfl) rfl rfl (.assign rfl rfl) ?_
      refine WR.nil ?_
      have hE : chainR l d a r = ((chainF d (parR l a) (maxTime l + 1) r), 0) := if_neg (by rw [busy_none (fun i hi => hnb i (by omega))]; simp)
      rw [hE]
      have hn : q.1 = (chainF d (parR l a) (maxTime l + 1) r).length := by rw [chainF_len]; omega
      refine WA.roweq 0 rfl (chainF d (parR l a) (maxTime l + 1) r).length ((chainF d (parR l a) (maxTime l + 1) r).flatMap nc) hn (by rw [hn, List.take_length]) ?_
      exact WA.ret2 rfl rfl rfl (.cons_cons _ (.cons _ (.cons _ .slnil))) ⟨_, _, by rw [hn], rfl⟩
set_option maxRecDepth 20000 in
/-- redpencil/edit.Replace$1 -/
theorem erep1F (x : Int) (w : World) : Ct Tryz.prog 123 #[.int .i32 x] [] w (fun u hs => u = .bool (!rvalid x) ∧ hs = []) := by
  refine Ct.intro Tryz.func123 rfl Tryz.ntmps123 rfl ?_
  refine WA.seq ?_
  refine WA.region ?_
  refine WR.val (G0 rfl) rfl rfl (.assign rfl rfl) ?_
  refine WR.nil ?_
  refine WA.seq ?_
  refine WA.region ?_
  refine WR.val (G0 rfl) rfl rfl (.move rfl rfl) ?_
  refine WR.dw (G0 rfl) rfl rfl (.callv (caps := []) rfl rfl rfl EN_124 (fun w hw => rvalidF _ w)) ?_
  rintro _ _ ⟨rfl, rfl⟩
  refine WR.val (G0 rfl) rfl rfl (.not rfl rfl) ?_
  refine WR.val (G0 rfl) rfl rfl (.assign rfl rfl) ?_
  refine WR.nil ?_
  exact WA.ret1 rfl rfl (List.nil_sublist _) ⟨rfl, rfl⟩
set_option maxRecDepth 20000 in
/-- redpencil/edit.Replace -/
theorem replaceEF (l : List Nd) (A : Option Addr) (cap : Nat) (w : World) (hS : SlN w A l) (hl : l.length ≤ 400000) (d : Dot) (a n : Int) (r : List Int) (A' : Option Addr) (cap' : Nat) (hR : SlR w A' r) (hr : r.length ≤ 400000) : Ct Tryz.prog 50 #[.slice A l.length cap, dv d, .int .i64 a, .int .i64 n, .slice A' r.length cap'] [] w (fun u hs => ∃ B c, u = .tuple #[.slice B (replaceR l d a n r).1.length c, .int .i64 (replaceR l d a n r).2] ∧ hs = [En.row B (replaceR l d a n r).1.length c 42 6 ((replaceR l d a n r).1.flatMap nc)]) := by
  refine Ct.intro Tryz.func50 rfl Tryz.ntmps50 rfl ?_
  refine WA.seq ?_
  refine WA.region ?_
  refine WR.dw (G0 rfl) rfl rfl (.box (vs := [_, _]) rfl rfl rfl) ?_
  rintro _ _ ⟨b2, rfl, rfl⟩
  refine WR.val (G0 rfl) rfl rfl (.assign rfl rfl) ?_
  refine WR.val (G0 rfl) rfl rfl (.assign rfl rfl) ?_
  refine WR.nil ?_
  refine WA.seq ?_
  refine WA.region ?_
  refine WR.val (G0 rfl) rfl rfl (.move rfl rfl) ?_
  refine WR.dw (G0 rfl) rfl rfl (.callv (caps := []) rfl rfl rfl EN_122 (fun w hw => conFR r A' cap' 123 [] (fun x => !rvalid x) _ (hw.slf0 hR) (by omega) EN_123 (fun x _ W _ => erep1F x W))) ?_
  rintro _ _ ⟨rfl, rfl⟩
  refine WR.val (G0 rfl) rfl rfl (.assign rfl rfl) ?_
  refine WR.nil ?_
  refine WA.seq ?_
  refine WA.region ?_
  refine WR.val (G0 rfl) rfl rfl (.fa rfl FA_39_1 rfl) ?_
  refine WR.val (G0 rfl) rfl rfl (.load1 rfl NA_3 rfl (fun _ hw => hw.rd_blk (k := 1) 0 rfl rfl)) ?_
  refine WR.val (G0 rfl) rfl rfl (.move rfl rfl) ?_
  refine WR.val (G0 rfl) rfl rfl (.len rfl ST_63.1 rfl) ?_
  refine WR.val (G0 rfl) rfl rfl (.sub rfl rfl rfl (by omega) (by omega)) ?_
  refine WR.val (G0 rfl) rfl rfl (.add rfl rfl rfl (by omega) (by omega)) ?_
  refine WR.val (G0 rfl) rfl rfl (.gtr rfl rfl rfl) ?_
  refine WR.val (G0 rfl) rfl rfl (.assign rfl rfl) ?_
  refine WR.nil ?_
  refine WA.seq ?_
  have hlat0 := latest_nonneg l
  refine WA.region ?_
  refine WR.val (G0 rfl) rfl rfl (.move rfl rfl) ?_
  refine WR.dw (G0 rfl) rfl rfl (.callv (caps := []) rfl rfl rfl EN_33 (fun w hw => wellF _ _ _ _ (hw.slf0 hS) (by first | omega | (simp; omega)))) ?_
  rintro _ _ ⟨rfl, rfl⟩
  refine WR.val (G0 rfl) rfl rfl (.not rfl rfl) ?_
  refine WR.val (G0 rfl) rfl rfl (.move rfl rfl) ?_
  refine WR.split (d := 29) rfl (fun h7 => ?_) (fun h7 => ?_)
  · have f8 := h7
    try simp only [decide_eq_true_eq, decide_eq_false_iff_not, Bool.not_eq_true', Bool.not_eq_false', Int.not_lt, Int.not_le] at f8
    refine WR.off (Gf rfl rfl rfl h7) rfl rfl ?_
    refine WR.off (Gf rfl rfl rfl h7) rfl rfl ?_
    refine WR.off (Gf rfl rfl rfl h7) rfl rfl ?_
    refine WR.val (G0 rfl) rfl rfl (.pick_t rfl rfl h7 rfl) ?_
    refine WR.dw (G0 rfl) rfl rfl (.callv (caps := []) rfl rfl rfl EN_117 (fun w hw => ewhenF _ _ w)) ?_
    rintro _ _ ⟨rfl, rfl⟩
    refine WR.val (G0 rfl) rfl rfl (.move rfl rfl) ?_
    refine WR.val (G0 rfl) rfl rfl (.move rfl rfl) ?_
    refine WR.val (G0 rfl) rfl rfl (.move rfl rfl) ?_
    refine WR.dw (G0 rfl) rfl rfl (.callv (caps := []) rfl rfl rfl EN_116 (fun w hw => spanF _ _ _ _ (hw.slf0 hS) (by first | omega | (simp; omega)) _ _)) ?_
    rintro _ _ ⟨rfl, rfl⟩
    refine WR.val (G0 rfl) rfl rfl (.move rfl rfl) ?_
    refine WR.val (G0 rfl) rfl rfl (.gtr rfl rfl rfl) ?_
    refine WR.val (G0 rfl) rfl rfl (.move rfl rfl) ?_
    refine WR.split (d := 41) rfl (fun h10 => ?_) (fun h10 => ?_)
    · have f11 := h10
      try simp only [decide_eq_true_eq, decide_eq_false_iff_not, Bool.not_eq_true', Bool.not_eq_false', Int.not_lt, Int.not_le] at f11
      refine WR.off (Gf rfl rfl rfl h10) rfl rfl ?_
      refine WR.off (Gf rfl rfl rfl h10) rfl rfl ?_
      refine WR.off (Gf rfl rfl rfl h10) rfl rfl ?_
      refine WR.val (G0 rfl) rfl rfl (.pick_t rfl rfl h10 rfl) ?_
      refine WR.dw (G0 rfl) rfl rfl (.callv (caps := []) rfl rfl rfl EN_117 (fun w hw => ewhenF _ _ w)) ?_
      rintro _ _ ⟨rfl, rfl⟩
      refine WR.val (G0 rfl) rfl rfl (.move rfl rfl) ?_
      refine WR.dw (G0 rfl) rfl rfl (.callv (caps := []) rfl rfl rfl EN_117 (fun w hw => ewhenF _ _ w)) ?_
      rintro _ _ ⟨rfl, rfl⟩
      refine WR.val (G0 rfl) rfl rfl (.move rfl rfl) ?_
      refine WR.val (G0 rfl) rfl rfl (.move rfl rfl) ?_
      refine WR.split (d := 50) rfl (fun h12 => ?_) (fun h12 => ?_)
      · have f13 := h12
        try simp only [decide_eq_true_eq, decide_eq_false_iff_not, Bool.not_eq_true', Bool.not_eq_false', Int.not_lt, Int.not_le] at f13
        refine WR.off (Gf rfl rfl rfl h12) rfl rfl ?_
        refine WR.off (Gf rfl rfl rfl h12) rfl rfl ?_
        refine WR.off (Gf rfl rfl rfl h12) rfl rfl ?_
        refine WR.off (Gf rfl rfl rfl h12) rfl rfl ?_
        refine WR.off (Gf rfl rfl rfl h12) rfl rfl ?_
        refine WR.off (Gf rfl rfl rfl h12) rfl rfl ?_
        refine WR.val (G0 rfl) rfl rfl (.pick_t rfl rfl h12 rfl) ?_
        refine WR.dw (G0 rfl) rfl rfl (.callv (caps := []) rfl rfl rfl EN_117 (fun w hw => ewhenF _ _ w)) ?_
        rintro _ _ ⟨rfl, rfl⟩
        refine WR.dw (G0 rfl) rfl rfl (.buildSlice (k := 1) (e := 29) (vs := [_, _, _, _, _]) rfl rfl rfl (fun _ => by kernel_rfl) rfl) ?_
        rintro _ _ ⟨b15, rfl, rfl⟩
        refine WR.dw (G0 rfl) rfl rfl (.callv (caps := []) rfl rfl rfl EN_115 (fun w hw => efirstF [_, _, _, _, _] _ _ w (hw.slf_blk 0 rfl rfl (by simp [maxLen])) (by simp))) ?_
        rintro _ _ ⟨rfl, rfl⟩
        refine WR.val (G0 rfl) rfl rfl (.assign rfl rfl) ?_
        refine WR.nil ?_
        refine WA.seq ?_
        refine WA.seq ?_
        refine WA.region ?_
        refine WR.val (G0 rfl) rfl rfl (.move rfl rfl) ?_
        refine WR.val (G0 rfl) rfl rfl (.neq rfl rfl rfl) ?_
        refine WR.nil ?_
        refine WA.cond rfl (fun h17 => ?_) (fun h17 => ?_)
        · have f18 := h17
          try simp only [decide_eq_true_eq, decide_eq_false_iff_not, Bool.not_eq_true', Bool.not_eq_false', Int.not_lt, Int.not_le] at f18
          refine WA.seq ?_
          refine WA.region ?_
          refine WR.val (G0 rfl) rfl rfl (.move rfl rfl) ?_
          refine WR.val (G0 rfl) rfl rfl (.assign rfl rfl) ?_
          refine WR.val (G0 rfl) rfl rfl (.assign rfl rfl) ?_
          refine WR.nil ?_
          have hE := replace_err (d := d) ‹¬ firstE _ = 0› (by simp_all <;> omega) (by simp_all <;> omega) (by simp_all <;> omega)
          rw [hE]
          refine WA.nilrow 42 6 ?_
          exact WA.ret2 rfl rfl rfl (List.singleton_sublist.2 (List.mem_cons_self ..)) ⟨none, 0, rfl, rfl⟩
        · have f19 := h17
          try simp only [decide_eq_true_eq, decide_eq_false_iff_not, Bool.not_eq_true', Bool.not_eq_false', Int.not_lt, Int.not_le] at f19
          refine WA.skip ?_
          refine WA.seq ?_
          by_cases h20 : busy l d r = true
          · have hcr : chainR l d a r = ([], 11) := if_pos h20
            obtain ⟨hz, hdv, hn5, hod, hex⟩ := replace_facts (d := d) ‹firstE _ = 0› (by simp_all <;> omega) (by simp_all <;> omega) (by simp_all <;> omega)
            obtain ⟨hwl, ha0, hn0, hav, hnv⟩ := spanR_zero hz
            have hok := well_store hwl
            have hd0 : 0 ≤ d.c := by simp only [dvalid, decide_eq_true_eq] at hdv; omega
            have hRR : replaceR l d a n r = if busy l d r = true then ([], 11) else (deltaF l (cutK l a n) (parR l a) d r, 0) := by unfold replaceR; rw [if_neg (by simp [hwl, hdv]), if_neg (by simp [hz]), if_neg hn5, if_neg hod, if_neg hex]
            refine WA.region ?_
            refine WR.val (G0 rfl) rfl rfl (.move rfl rfl) ?_
            refine WR.val (G0 rfl) rfl rfl (.loadK (vs := [_, _]) rfl AG_39 rfl (fun _ hw => hw.rd_blk (k := 2) 1 rfl rfl)) ?_
            refine WR.val (G0 rfl) rfl rfl (.move rfl rfl) ?_
            refine WR.val (G0 rfl) rfl rfl (.move rfl rfl) ?_
            refine WR.dw (G0 rfl) rfl rfl (.call0 (caps := []) rfl rfl rfl EN_126 (fun w hw => chainEF l A cap _ (hw.slf0 hS) hl d a r A' cap' (hw.slf0 hR) (by omega) hok ha0 hav (by omega) (by omega) (by omega))) ?_
            rintro _ _ ⟨_, ⟨v22, v23, rfl, rfl⟩, rfl⟩
            refine WR.val (G0 rfl) rfl rfl (.move rfl rfl) ?_
            refine WR.val (G0 rfl) rfl rfl (.extract (vs := [_, _]) rfl rfl rfl) ?_
            refine WR.val (G0 rfl) rfl rfl (.extract (vs := [_, _]) rfl rfl rfl) ?_
            refine WR.val (G0 rfl) rfl rfl (.assign rfl rfl) ?_
            refine WR.val (G0 rfl) rfl rfl (.assign rfl rfl) ?_
            refine WR.nil ?_
            refine WA.seq ?_
            refine WA.seq ?_
            rw [hcr]
            refine WA.region ?_
            refine WR.val (G0 rfl) rfl rfl (.move rfl rfl) ?_
            refine WR.val (G0 rfl) rfl rfl (.neq rfl rfl rfl) ?_
            refine WR.nil ?_
            refine WA.cond rfl (fun h25 => ?_) (fun h25 => ?_)
            · have f26 := h25
              try simp only [decide_eq_true_eq, decide_eq_false_iff_not, Bool.not_eq_true', Bool.not_eq_false', Int.not_lt, Int.not_le] at f26
              refine WA.seq ?_
              refine WA.region ?_
              refine WR.val (G0 rfl) rfl rfl (.move rfl rfl) ?_
              refine WR.val (G0 rfl) rfl rfl (.assign rfl rfl) ?_
              refine WR.val (G0 rfl) rfl rfl (.assign rfl rfl) ?_
              refine WR.nil ?_
              have hE : replaceR l d a n r = ([], 11) := by rw [hRR, if_pos (by assumption)]
              rw [hE]
              refine WA.nilrow 42 6 ?_
              exact WA.ret2 rfl rfl rfl (List.singleton_sublist.2 (List.mem_cons_self ..)) ⟨none, 0, rfl, rfl⟩
            · have f27 := h25
              try simp only [decide_eq_true_eq, decide_eq_false_iff_not, Bool.not_eq_true', Bool.not_eq_false', Int.not_lt, Int.not_le] at f27
              refine WA.skip ?_
              refine WA.seq ?_
              exfalso; simp_all
          · have hcr : chainR l d a r = ((chainF d (parR l a) (maxTime l + 1) r), 0) := if_neg h20
            obtain ⟨hz, hdv, hn5, hod, hex⟩ := replace_facts (d := d) ‹firstE _ = 0› (by simp_all <;> omega) (by simp_all <;> omega) (by simp_all <;> omega)
            obtain ⟨hwl, ha0, hn0, hav, hnv⟩ := spanR_zero hz
            have hok := well_store hwl
            have hd0 : 0 ≤ d.c := by simp only [dvalid, decide_eq_true_eq] at hdv; omega
            have hRR : replaceR l d a n r = if busy l d r = true then ([], 11) else (deltaF l (cutK l a n) (parR l a) d r, 0) := by unfold replaceR; rw [if_neg (by simp [hwl, hdv]), if_neg (by simp [hz]), if_neg hn5, if_neg hod, if_neg hex]
            refine WA.region ?_
            refine WR.val (G0 rfl) rfl rfl (.move rfl rfl) ?_
            refine WR.val (G0 rfl) rfl rfl (.loadK (vs := [_, _]) rfl AG_39 rfl (fun _ hw => hw.rd_blk (k := 2) 1 rfl rfl)) ?_
            refine WR.val (G0 rfl) rfl rfl (.move rfl rfl) ?_
            refine WR.val (G0 rfl) rfl rfl (.move rfl rfl) ?_
            refine WR.dw (G0 rfl) rfl rfl (.call0 (caps := []) rfl rfl rfl EN_126 (fun w hw => chainEF l A cap _ (hw.slf0 hS) hl d a r A' cap' (hw.slf0 hR) (by omega) hok ha0 hav (by omega) (by omega) (by omega))) ?_
            rintro _ _ ⟨_, ⟨v29, v30, rfl, rfl⟩, rfl⟩
            refine WR.val (G0 rfl) rfl rfl (.move rfl rfl) ?_
            refine WR.val (G0 rfl) rfl rfl (.extract (vs := [_, _]) rfl rfl rfl) ?_
            refine WR.val (G0 rfl) rfl rfl (.extract (vs := [_, _]) rfl rfl rfl) ?_
            refine WR.val (G0 rfl) rfl rfl (.assign rfl rfl) ?_
            refine WR.val (G0 rfl) rfl rfl (.assign rfl rfl) ?_
            refine WR.nil ?_
            refine WA.seq ?_
            refine WA.seq ?_
            rw [hcr]
            refine WA.region ?_
            refine WR.val (G0 rfl) rfl rfl (.move rfl rfl) ?_
            refine WR.val (G0 rfl) rfl rfl (.neq rfl rfl rfl) ?_
            refine WR.nil ?_
            refine WA.cond rfl (fun h32 => ?_) (fun h32 => ?_)
            · have f33 := h32
              try simp only [decide_eq_true_eq, decide_eq_false_iff_not, Bool.not_eq_true', Bool.not_eq_false', Int.not_lt, Int.not_le] at f33
              refine WA.seq ?_
              exfalso; simp_all
            · have f34 := h32
              try simp only [decide_eq_true_eq, decide_eq_false_iff_not, Bool.not_eq_true', Bool.not_eq_false', Int.not_lt, Int.not_le] at f34
              refine WA.skip ?_
              refine WA.seq ?_
              have hdr : deleteR l a n = ((goneF l (cutK l a n)), 0) := by unfold deleteR; rw [if_neg (by simp [hz]), if_neg (by omega)]
              have hgl := goneF_len l (cutK l a n)
              refine WA.region ?_
              refine WR.val (G0 rfl) rfl rfl (.move rfl rfl) ?_
              refine WR.val (G0 rfl) rfl rfl (.move rfl rfl) ?_
              refine WR.val (G0 rfl) rfl rfl (.move rfl rfl) ?_
              refine WR.dw (G0 rfl) rfl rfl (.call0 (caps := []) rfl rfl rfl EN_47 (fun w hw => deleteEF l A cap _ (hw.slf0 hS) hl a n)) ?_
              rintro _ _ ⟨_, ⟨v36, v37, rfl, rfl⟩, rfl⟩
              refine WR.val (G0 rfl) rfl rfl (.move rfl rfl) ?_
              refine WR.val (G0 rfl) rfl rfl (.extract (vs := [_, _]) rfl rfl rfl) ?_
              refine WR.val (G0 rfl) rfl rfl (.extract (vs := [_, _]) rfl rfl rfl) ?_
              refine WR.val (G0 rfl) rfl rfl (.assign rfl rfl) ?_
              refine WR.val (G0 rfl) rfl rfl (.assign rfl rfl) ?_
              refine WR.nil ?_
              refine WA.seq ?_
              refine WA.seq ?_
              rw [hdr]
              refine WA.region ?_
              refine WR.val (G0 rfl) rfl rfl (.move rfl rfl) ?_
              refine WR.val (G0 rfl) rfl rfl (.neq rfl rfl rfl) ?_
              refine WR.nil ?_
              refine WA.cond rfl (fun h39 => ?_) (fun h39 => ?_)
              · have f40 := h39
                try simp only [decide_eq_true_eq, decide_eq_false_iff_not, Bool.not_eq_true', Bool.not_eq_false', Int.not_lt, Int.not_le] at f40
                refine WA.seq ?_
                exfalso; simp_all
              · have f41 := h39
                try simp only [decide_eq_true_eq, decide_eq_false_iff_not, Bool.not_eq_true', Bool.not_eq_false', Int.not_lt, Int.not_le] at f41
                refine WA.skip ?_
                refine WA.seq ?_
                refine WA.rowcap 0 rfl (fun hcg => ?_)
                refine WA.rowcap 1 rfl (fun hcc => ?_)
                refine WA.region ?_
                refine WR.val (G0 rfl) rfl rfl (.move rfl rfl) ?_
                refine WR.val (G0 rfl) rfl rfl (.move rfl rfl) ?_
                refine WR.dw (G0 rfl) rfl rfl (.call0 (caps := []) rfl rfl rfl EN_32 (fun w hw => joinF (goneF l (cutK l a n)) (chainF d (parR l a) (maxTime l + 1) r) _ _ _ _ _ (hw.slf_row 0 rfl) (hw.slf_row 1 rfl) (by omega) (by rw [chainF_len]; omega) hcg.1 hcc.1)) ?_
                rintro _ _ ⟨_, ⟨v43, v44, rfl, rfl⟩, rfl⟩
                refine WR.val (G0 rfl) rfl rfl (.extract (vs := [_, _]) rfl rfl rfl) ?_
                refine WR.val (G0 rfl) rfl rfl (.extract (vs := [_, _]) rfl rfl rfl) ?_
                refine WR.val (G0 rfl) rfl rfl (.assign rfl rfl) ?_
                refine WR.val (G0 rfl) rfl rfl (.assign rfl rfl) ?_
                refine WR.nil ?_
                have hE : replaceR l d a n r = joinR (goneF l (cutK l a n)) (chainF d (parR l a) (maxTime l + 1) r) := by rw [hRR, if_neg (by assumption), (replace_ed hdv hz hod hex (by simp_all)).join]
                rw [hE]
                exact WA.ret2 rfl rfl rfl (.cons_cons _ (.cons _ (.cons _ (.cons _ (.cons _ .slnil))))) ⟨_, _, rfl, rfl⟩
      · have f45 := h12
        try simp only [decide_eq_true_eq, decide_eq_false_iff_not, Bool.not_eq_true', Bool.not_eq_false', Int.not_lt, Int.not_le] at f45
        refine WR.val (Gt rfl rfl rfl h12) rfl rfl (.move rfl rfl) ?_
        refine WR.dw (Gt rfl rfl rfl h12) rfl rfl (.callv (caps := []) rfl rfl rfl EN_51 (fun w hw => latestF _ _ _ _ (hw.slf0 hS) (by first | omega | (simp; omega)))) ?_
        rintro _ _ ⟨rfl, rfl⟩
        refine WR.val (Gt rfl rfl rfl h12) rfl rfl (.move rfl rfl) ?_
        refine WR.val (Gt rfl rfl rfl h12) rfl rfl (.len rfl ST_63.1 rfl) ?_
        refine WR.val (Gt rfl rfl rfl h12) rfl rfl (.sub rfl rfl rfl (by omega) (by omega)) ?_
        refine WR.val (Gt rfl rfl rfl h12) rfl rfl (.gtr rfl rfl rfl) ?_
        refine WR.val (G0 rfl) rfl rfl (.pick_f rfl rfl h12 rfl) ?_
        refine WR.dw (G0 rfl) rfl rfl (.callv (caps := []) rfl rfl rfl EN_117 (fun w hw => ewhenF _ _ w)) ?_
        rintro _ _ ⟨rfl, rfl⟩
        refine WR.dw (G0 rfl) rfl rfl (.buildSlice (k := 1) (e := 29) (vs := [_, _, _, _, _]) rfl rfl rfl (fun _ => by kernel_rfl) rfl) ?_
        rintro _ _ ⟨b48, rfl, rfl⟩
        refine WR.dw (G0 rfl) rfl rfl (.callv (caps := []) rfl rfl rfl EN_115 (fun w hw => efirstF [_, _, _, _, _] _ _ w (hw.slf_blk 0 rfl rfl (by simp [maxLen])) (by simp))) ?_
        rintro _ _ ⟨rfl, rfl⟩
        refine WR.val (G0 rfl) rfl rfl (.assign rfl rfl) ?_
        refine WR.nil ?_
        refine WA.seq ?_
        refine WA.seq ?_
        refine WA.region ?_
        refine WR.val (G0 rfl) rfl rfl (.move rfl rfl) ?_
        refine WR.val (G0 rfl) rfl rfl (.neq rfl rfl rfl) ?_
        refine WR.nil ?_
        refine WA.cond rfl (fun h50 => ?_) (fun h50 => ?_)
        · have f51 := h50
          try simp only [decide_eq_true_eq, decide_eq_false_iff_not, Bool.not_eq_true', Bool.not_eq_false', Int.not_lt, Int.not_le] at f51
          refine WA.seq ?_
          refine WA.region ?_
          refine WR.val (G0 rfl) rfl rfl (.move rfl rfl) ?_
          refine WR.val (G0 rfl) rfl rfl (.assign rfl rfl) ?_
          refine WR.val (G0 rfl) rfl rfl (.assign rfl rfl) ?_
          refine WR.nil ?_
          have hE := replace_err (d := d) ‹¬ firstE _ = 0› (by simp_all <;> omega) (by simp_all <;> omega) (by simp_all <;> omega)
          rw [hE]
          refine WA.nilrow 42 6 ?_
          exact WA.ret2 rfl rfl rfl (List.singleton_sublist.2 (List.mem_cons_self ..)) ⟨none, 0, rfl, rfl⟩
        · have f52 := h50
          try simp only [decide_eq_true_eq, decide_eq_false_iff_not, Bool.not_eq_true', Bool.not_eq_false', Int.not_lt, Int.not_le] at f52
          refine WA.skip ?_
          refine WA.seq ?_
          by_cases h53 : busy l d r = true
          · have hcr : chainR l d a r = ([], 11) := if_pos h53
            obtain ⟨hz, hdv, hn5, hod, hex⟩ := replace_facts (d := d) ‹firstE _ = 0› (by simp_all <;> omega) (by simp_all <;> omega) (by simp_all <;> omega)
            obtain ⟨hwl, ha0, hn0, hav, hnv⟩ := spanR_zero hz
            have hok := well_store hwl
            have hd0 : 0 ≤ d.c := by simp only [dvalid, decide_eq_true_eq] at hdv; omega
            have hRR : replaceR l d a n r = if busy l d r = true then ([], 11) else (deltaF l (cutK l a n) (parR l a) d r, 0) := by unfold replaceR; rw [if_neg (by simp [hwl, hdv]), if_neg (by simp [hz]), if_neg hn5, if_neg hod, if_neg hex]
            refine WA.region ?_
            refine WR.val (G0 rfl) rfl rfl (.move rfl rfl) ?_
            refine WR.val (G0 rfl) rfl rfl (.loadK (vs := [_, _]) rfl AG_39 rfl (fun _ hw => hw.rd_blk (k := 2) 1 rfl rfl)) ?_
            refine WR.val (G0 rfl) rfl rfl (.move rfl rfl) ?_
            refine WR.val (G0 rfl) rfl rfl (.move rfl rfl) ?_
            refine WR.dw (G0 rfl) rfl rfl (.call0 (caps := []) rfl rfl rfl EN_126 (fun w hw => chainEF l A cap _ (hw.slf0 hS) hl d a r A' cap' (hw.slf0 hR) (by omega) hok ha0 hav (by omega) (by omega) (by omega))) ?_
            rintro _ _ ⟨_, ⟨v55, v56, rfl, rfl⟩, rfl⟩
            refine WR.val (G0 rfl) rfl rfl (.move rfl rfl) ?_
            refine WR.val (G0 rfl) rfl rfl (.extract (vs := [_, _]) rfl rfl rfl) ?_
            refine WR.val (G0 rfl) rfl rfl (.extract (vs := [_, _]) rfl rfl rfl) ?_
            refine WR.val (G0 rfl) rfl rfl (.assign rfl rfl) ?_
            refine WR.val (G0 rfl) rfl rfl (.assign rfl rfl) ?_
            refine WR.nil ?_
            refine WA.seq ?_
            refine WA.seq ?_
            rw [hcr]
            refine WA.region ?_
            refine WR.val (G0 rfl) rfl rfl (.move rfl rfl) ?_
            refine WR.val (G0 rfl) rfl rfl (.neq rfl rfl rfl) ?_
            refine WR.nil ?_
            refine WA.cond rfl (fun h58 => ?_) (fun h58 => ?_)
            · have f59 := h58
              try simp only [decide_eq_true_eq, decide_eq_false_iff_not, Bool.not_eq_true', Bool.not_eq_false', Int.not_lt, Int.not_le] at f59
              refine WA.seq ?_
              refine WA.region ?_
              refine WR.val (G0 rfl) rfl rfl (.move rfl rfl) ?_
              refine WR.val (G0 rfl) rfl rfl (.assign rfl rfl) ?_
              refine WR.val (G0 rfl) rfl rfl (.assign rfl rfl) ?_
              refine WR.nil ?_
              have hE : replaceR l d a n r = ([], 11) := by rw [hRR, if_pos (by assumption)]
              rw [hE]
              refine WA.nilrow 42 6 ?_
              exact WA.ret2 rfl rfl rfl (List.singleton_sublist.2 (List.mem_cons_self ..)) ⟨none, 0, rfl, rfl⟩
            · have f60 := h58
              try simp only [decide_eq_true_eq, decide_eq_false_iff_not, Bool.not_eq_true', Bool.not_eq_false', Int.not_lt, Int.not_le] at f60
              refine WA.skip ?_
              refine WA.seq ?_
              exfalso; simp_all
          · have hcr : chainR l d a r = ((chainF d (parR l a) (maxTime l + 1) r), 0) := if_neg h53
            obtain ⟨hz, hdv, hn5, hod, hex⟩ := replace_facts (d := d) ‹firstE _ = 0› (by simp_all <;> omega) (by simp_all <;> omega) (by simp_all <;> omega)
            obtain ⟨hwl, ha0, hn0, hav, hnv⟩ := spanR_zero hz
            have hok := well_store hwl
            have hd0 : 0 ≤ d.c := by simp only [dvalid, decide_eq_true_eq] at hdv; omega
            have hRR : replaceR l d a n r = if busy l d r = true then ([], 11) else (deltaF l (cutK l a n) (parR l a) d r, 0) := by unfold replaceR; rw [if_neg (by simp [hwl, hdv]), if_neg (by simp [hz]), if_neg hn5, if_neg hod, if_neg hex]
            refine WA.region ?_
            refine WR.val (G0 rfl) rfl rfl (.move rfl rfl) ?_
            refine WR.val (G0 rfl) rfl rfl (.loadK (vs := [_, _]) rfl AG_39 rfl (fun _ hw => hw.rd_blk (k := 2) 1 rfl rfl)) ?_
            refine WR.val (G0 rfl) rfl rfl (.move rfl rfl) ?_
            refine WR.val (G0 rfl) rfl rfl (.move rfl rfl) ?_
            refine WR.dw (G0 rfl) rfl rfl (.call0 (caps := []) rfl rfl rfl EN_126 (fun w hw => chainEF l A cap _ (hw.slf0 hS) hl d a r A' cap' (hw.slf0 hR) (by omega) hok ha0 hav (by omega) (by omega) (by omega))) ?_
            rintro _ _ ⟨_, ⟨v62, v63, rfl, rfl⟩, rfl⟩
            refine WR.val (G0 rfl) rfl rfl (.move rfl rfl) ?_
            refine WR.val (G0 rfl) rfl rfl (.extract (vs := [_, _]) rfl rfl rfl) ?_
            refine WR.val (G0 rfl) rfl rfl (.extract (vs := [_, _]) rfl rfl rfl) ?_
            refine WR.val (G0 rfl) rfl rfl (.assign rfl rfl) ?_
            refine WR.val (G0 rfl) rfl rfl (.assign rfl rfl) ?_
            refine WR.nil ?_
            refine WA.seq ?_
            refine WA.seq ?_
            rw [hcr]
            refine WA.region ?_
            refine WR.val (G0 rfl) rfl rfl (.move rfl rfl) ?_
            refine WR.val (G0 rfl) rfl rfl (.neq rfl rfl rfl) ?_
            refine WR.nil ?_
            refine WA.cond rfl (fun h65 => ?_) (fun h65 => ?_)
            · have f66 := h65
              try simp only [decide_eq_true_eq, decide_eq_false_iff_not, Bool.not_eq_true', Bool.not_eq_false', Int.not_lt, Int.not_le] at f66
              refine WA.seq ?_
              exfalso; simp_all
            · have f67 := h65
              try simp only [decide_eq_true_eq, decide_eq_false_iff_not, Bool.not_eq_true', Bool.not_eq_false', Int.not_lt, Int.not_le] at f67
              refine WA.skip ?_
              refine WA.seq ?_
              have hdr : deleteR l a n = ((goneF l (cutK l a n)), 0) := by unfold deleteR; rw [if_neg (by simp [hz]), if_neg (by omega)]
              have hgl := goneF_len l (cutK l a n)
              refine WA.region ?_
              refine WR.val (G0 rfl) rfl rfl (.move rfl rfl) ?_
              refine WR.val (G0 rfl) rfl rfl (.move rfl rfl) ?_
              refine WR.val (G0 rfl) rfl rfl (.move rfl rfl) ?_
              refine WR.dw (G0 rfl) rfl rfl (.call0 (caps := []) rfl rfl rfl EN_47 (fun w hw => deleteEF l A cap _ (hw.slf0 hS) hl a n)) ?_
              rintro _ _ ⟨_, ⟨v69, v70, rfl, rfl⟩, rfl⟩
              refine WR.val (G0 rfl) rfl rfl (.move rfl rfl) ?_
              refine WR.val (G0 rfl) rfl rfl (.extract (vs := [_, _]) rfl rfl rfl) ?_
              refine WR.val (G0 rfl) rfl rfl (.extract (vs := [_, _]) rfl rfl rfl) ?_
              refine WR.val (G0 rfl) rfl rfl (.assign rfl rfl) ?_
              refine WR.val (G0 rfl) rfl rfl (.assign rfl rfl) ?_
              refine WR.nil ?_
              refine WA.seq ?_
              refine WA.seq ?_
              rw [hdr]
              refine WA.region ?_
              refine WR.val (G0 rfl) rfl rfl (.move rfl rfl) ?_
              refine WR.val (G0 rfl) rfl rfl (.neq rfl rfl rfl) ?_
              refine WR.nil ?_
              refine WA.cond rfl (fun h72 => ?_) (fun h72 => ?_)
              · have f73 := h72
                try simp only [decide_eq_true_eq, decide_eq_false_iff_not, Bool.not_eq_true', Bool.not_eq_false', Int.not_lt, Int.not_le] at f73
                refine WA.seq ?_
                exfalso; simp_all
              · have f74 := h72
                try simp only [decide_eq_true_eq, decide_eq_false_iff_not, Bool.not_eq_true', Bool.not_eq_false', Int.not_lt, Int.not_le] at f74
                refine WA.skip ?_
                refine WA.seq ?_
                refine WA.rowcap 0 rfl (fun hcg => ?_)
                refine WA.rowcap 1 rfl (fun hcc => ?_)
                refine WA.region ?_
                refine WR.val (G0 rfl) rfl rfl (.move rfl rfl) ?_
                refine WR.val (G0 rfl) rfl rfl (.move rfl rfl) ?_
                refine WR.dw (G0 rfl) rfl rfl (.call0 (caps := []) rfl rfl rfl EN_32 (fun w hw => joinF (goneF l (cutK l a n)) (chainF d (parR l a) (maxTime l + 1) r) _ _ _ _ _ (hw.slf_row 0 rfl) (hw.slf_row 1 rfl) (by omega) (by rw [chainF_len]; omega) hcg.1 hcc.1)) ?_
                rintro _ _ ⟨_, ⟨v76, v77, rfl, rfl⟩, rfl⟩
                refine WR.val (G0 rfl) rfl rfl (.extract (vs := [_, _]) rfl rfl rfl) ?_
                refine WR.val (G0 rfl) rfl rfl (.extract (vs := [_, _]) rfl rfl rfl) ?_
                refine WR.val (G0 rfl) rfl rfl (.assign rfl rfl) ?_
                refine WR.val (G0 rfl) rfl rfl (.assign rfl rfl) ?_
                refine WR.nil ?_
                have hE : replaceR l d a n r = joinR (goneF l (cutK l a n)) (chainF d (parR l a) (maxTime l + 1) r) := by rw [hRR, if_neg (by assumption), (replace_ed hdv hz hod hex (by simp_all)).join]
                rw [hE]
                exact WA.ret2 rfl rfl rfl (.cons_cons _ (.cons _ (.cons _ (.cons _ (.cons _ .slnil))))) ⟨_, _, rfl, rfl⟩
    · have f78 := h10
      try simp only [decide_eq_true_eq, decide_eq_false_iff_not, Bool.not_eq_true', Bool.not_eq_false', Int.not_lt, Int.not_le] at f78
      refine WR.val (Gt rfl rfl rfl h10) rfl rfl (.move rfl rfl) ?_
      refine WR.val (Gt rfl rfl rfl h10) rfl rfl (.len rfl ST_63.1 rfl) ?_
      refine WR.val (Gt rfl rfl rfl h10) rfl rfl (.gtr rfl rfl rfl) ?_
      refine WR.val (G0 rfl) rfl rfl (.pick_f rfl rfl h10 rfl) ?_
      refine WR.dw (G0 rfl) rfl rfl (.callv (caps := []) rfl rfl rfl EN_117 (fun w hw => ewhenF _ _ w)) ?_
      rintro _ _ ⟨rfl, rfl⟩
      refine WR.val (G0 rfl) rfl rfl (.move rfl rfl) ?_
      refine WR.dw (G0 rfl) rfl rfl (.callv (caps := []) rfl rfl rfl EN_117 (fun w hw => ewhenF _ _ w)) ?_
      rintro _ _ ⟨rfl, rfl⟩
      refine WR.val (G0 rfl) rfl rfl (.move rfl rfl) ?_
      refine WR.val (G0 rfl) rfl rfl (.move rfl rfl) ?_
      refine WR.split (d := 50) rfl (fun h80 => ?_) (fun h80 => ?_)
      · have f81 := h80
        try simp only [decide_eq_true_eq, decide_eq_false_iff_not, Bool.not_eq_true', Bool.not_eq_false', Int.not_lt, Int.not_le] at f81
        refine WR.off (Gf rfl rfl rfl h80) rfl rfl ?_
        refine WR.off (Gf rfl rfl rfl h80) rfl rfl ?_
        refine WR.off (Gf rfl rfl rfl h80) rfl rfl ?_
        refine WR.off (Gf rfl rfl rfl h80) rfl rfl ?_
        refine WR.off (Gf rfl rfl rfl h80) rfl rfl ?_
        refine WR.off (Gf rfl rfl rfl h80) rfl rfl ?_
        refine WR.val (G0 rfl) rfl rfl (.pick_t rfl rfl h80 rfl) ?_
        refine WR.dw (G0 rfl) rfl rfl (.callv (caps := []) rfl rfl rfl EN_117 (fun w hw => ewhenF _ _ w)) ?_
        rintro _ _ ⟨rfl, rfl⟩
        refine WR.dw (G0 rfl) rfl rfl (.buildSlice (k := 1) (e := 29) (vs := [_, _, _, _, _]) rfl rfl rfl (fun _ => by kernel_rfl) rfl) ?_
        rintro _ _ ⟨b83, rfl, rfl⟩
        refine WR.dw (G0 rfl) rfl rfl (.callv (caps := []) rfl rfl rfl EN_115 (fun w hw => efirstF [_, _, _, _, _] _ _ w (hw.slf_blk 0 rfl rfl (by simp [maxLen])) (by simp))) ?_
        rintro _ _ ⟨rfl, rfl⟩
        refine WR.val (G0 rfl) rfl rfl (.assign rfl rfl) ?_
        refine WR.nil ?_
        refine WA.seq ?_
        refine WA.seq ?_
        refine WA.region ?_
        refine WR.val (G0 rfl) rfl rfl (.move rfl rfl) ?_
        refine WR.val (G0 rfl) rfl rfl (.neq rfl rfl rfl) ?_
        refine WR.nil ?_
        refine WA.cond rfl (fun h85 => ?_) (fun h85 => ?_)
        · have f86 := h85
          try simp only [decide_eq_true_eq, decide_eq_false_iff_not, Bool.not_eq_true', Bool.not_eq_false', Int.not_lt, Int.not_le] at f86
          refine WA.seq ?_
          refine WA.region ?_
          refine WR.val (G0 rfl) rfl rfl (.move rfl rfl) ?_
          refine WR.val (G0 rfl) rfl rfl (.assign rfl rfl) ?_
          refine WR.val (G0 rfl) rfl rfl (.assign rfl rfl) ?_
          refine WR.nil ?_
          have hE := replace_err (d := d) ‹¬ firstE _ = 0› (by simp_all <;> omega) (by simp_all <;> omega) (by simp_all <;> omega)
          rw [hE]
          refine WA.nilrow 42 6 ?_
          exact WA.ret2 rfl rfl rfl (List.singleton_sublist.2 (List.mem_cons_self ..)) ⟨none, 0, rfl, rfl⟩
        · have f87 := h85
          try simp only [decide_eq_true_eq, decide_eq_false_iff_not, Bool.not_eq_true', Bool.not_eq_false', Int.not_lt, Int.not_le] at f87
          refine WA.skip ?_
          refine WA.seq ?_
          by_cases h88 : busy l d r = true
          · have hcr : chainR l d a r = ([], 11) := if_pos h88
            obtain ⟨hz, hdv, hn5, hod, hex⟩ := replace_facts (d := d) ‹firstE _ = 0› (by simp_all <;> omega) (by simp_all <;> omega) (by simp_all <;> omega)
            obtain ⟨hwl, ha0, hn0, hav, hnv⟩ := spanR_zero hz
            have hok := well_store hwl
            have hd0 : 0 ≤ d.c := by simp only [dvalid, decide_eq_true_eq] at hdv; omega
            have hRR : replaceR l d a n r = if busy l d r = true then ([], 11) else (deltaF l (cutK l a n) (parR l a) d r, 0) := by unfold replaceR; rw [if_neg (by simp [hwl, hdv]), if_neg (by simp [hz]), if_neg hn5, if_neg hod, if_neg hex]
            refine WA.region ?_
            refine WR.val (G0 rfl) rfl rfl (.move rfl rfl) ?_
            refine WR.val (G0 rfl) rfl rfl (.loadK (vs := [_, _]) rfl AG_39 rfl (fun _ hw => hw.rd_blk (k := 2) 1 rfl rfl)) ?_
            refine WR.val (G0 rfl) rfl rfl (.move rfl rfl) ?_
            refine WR.val (G0 rfl) rfl rfl (.move rfl rfl) ?_
            refine WR.dw (G0 rfl) rfl rfl (.call0 (caps := []) rfl rfl rfl EN_126 (fun w hw => chainEF l A cap _ (hw.slf0 hS) hl d a r A' cap' (hw.slf0 hR) (by omega) hok ha0 hav (by omega) (by omega) (by omega))) ?_
            rintro _ _ ⟨_, ⟨v90, v91, rfl, rfl⟩, rfl⟩
            refine WR.val (G0 rfl) rfl rfl (.move rfl rfl) ?_
            refine WR.val (G0 rfl) rfl rfl (.extract (vs := [_, _]) rfl rfl rfl) ?_
            refine WR.val (G0 rfl) rfl rfl (.extract (vs := [_, _]) rfl rfl rfl) ?_
            refine WR.val (G0 rfl) rfl rfl (.assign rfl rfl) ?_
            refine WR.val (G0 rfl) rfl rfl (.assign rfl rfl) ?_
            refine WR.nil ?_
            refine WA.seq ?_
            refine WA.seq ?_
            rw [hcr]
            refine WA.region ?_
            refine WR.val (G0 rfl) rfl rfl (.move rfl rfl) ?_
            refine WR.val (G0 rfl) rfl rfl (.neq rfl rfl rfl) ?_
            refine WR.nil ?_
            refine WA.cond rfl (fun h93 => ?_) (fun h93 => ?_)
            · have f94 := h93
              try simp only [decide_eq_true_eq, decide_eq_false_iff_not, Bool.not_eq_true', Bool.not_eq_false', Int.not_lt, Int.not_le] at f94
              refine WA.seq ?_
              refine WA.region ?_
              refine WR.val (G0 rfl) rfl rfl (.move rfl rfl) ?_
              refine WR.val (G0 rfl) rfl rfl (.assign rfl rfl) ?_
              refine WR.val (G0 rfl) rfl rfl (.assign rfl rfl) ?_
              refine WR.nil ?_
              have hE : replaceR l d a n r = ([], 11) := by rw [hRR, if_pos (by assumption)]
              rw [hE]
              refine WA.nilrow 42 6 ?_
              exact WA.ret2 rfl rfl rfl (List.singleton_sublist.2 (List.mem_cons_self ..)) ⟨none, 0, rfl, rfl⟩
            · have f95 := h93
              try simp only [decide_eq_true_eq, decide_eq_false_iff_not, Bool.not_eq_true', Bool.not_eq_false', Int.not_lt, Int.not_le] at f95
              refine WA.skip ?_
              refine WA.seq ?_
              exfalso; simp_all
          · have hcr : chainR l d a r = ((chainF d (parR l a) (maxTime l + 1) r), 0) := if_neg h88
            obtain ⟨hz, hdv, hn5, hod, hex⟩ := replace_facts (d := d) ‹firstE _ = 0› (by simp_all <;> omega) (by simp_all <;> omega) (by simp_all <;> omega)
            obtain ⟨hwl, ha0, hn0, hav, hnv⟩ := spanR_zero hz
            have hok := well_store hwl
            have hd0 : 0 ≤ d.c := by simp only [dvalid, decide_eq_true_eq] at hdv; omega
            have hRR : replaceR l d a n r = if busy l d r = true then ([], 11) else (deltaF l (cutK l a n) (parR l a) d r, 0) := by unfold replaceR; rw [if_neg (by simp [hwl, hdv]), if_neg (by simp [hz]), if_neg hn5, if_neg hod, if_neg hex]
            refine WA.region ?_
            refine WR.val (G0 rfl) rfl rfl (.move rfl rfl) ?_
            refine WR.val (G0 rfl) rfl rfl (.loadK (vs := [_, _]) rfl AG_39 rfl (fun _ hw => hw.rd_blk (k := 2) 1 rfl rfl)) ?_
            refine WR.val (G0 rfl) rfl rfl (.move rfl rfl) ?_
            refine WR.val (G0 rfl) rfl rfl (.move rfl rfl) ?_
            refine WR.dw (G0 rfl) rfl rfl (.call0 (caps := []) rfl rfl rfl EN_126 (fun w hw => chainEF l A cap _ (hw.slf0 hS) hl d a r A' cap' (hw.slf0 hR) (by omega) hok ha0 hav (by omega) (by omega) (by omega))) ?_
            rintro _ _ ⟨_, ⟨v97, v98, rfl, rfl⟩, rfl⟩
            refine WR.val (G0 rfl) rfl rfl (.move rfl rfl) ?_
            refine WR.val (G0 rfl) rfl rfl (.extract (vs := [_, _]) rfl rfl rfl) ?_
            refine WR.val (G0 rfl) rfl rfl (.extract (vs := [_, _]) rfl rfl rfl) ?_
            refine WR.val (G0 rfl) rfl rfl (.assign rfl rfl) ?_
            refine WR.val (G0 rfl) rfl rfl (.assign rfl rfl) ?_
            refine WR.nil ?_
            refine WA.seq ?_
            refine WA.seq ?_
            rw [hcr]
            refine WA.region ?_
            refine WR.val (G0 rfl) rfl rfl (.move rfl rfl) ?_
            refine WR.val (G0 rfl) rfl rfl (.neq rfl rfl rfl) ?_
            refine WR.nil ?_
            refine WA.cond rfl (fun h100 => ?_) (fun h100 => ?_)
            · have f101 := h100
              try simp only [decide_eq_true_eq, decide_eq_false_iff_not, Bool.not_eq_true', Bool.not_eq_false', Int.not_lt, Int.not_le] at f101
              refine WA.seq ?_
              exfalso; simp_all
            · have f102 := h100
              try simp only [decide_eq_true_eq, decide_eq_false_iff_not, Bool.not_eq_true', Bool.not_eq_false', Int.not_lt, Int.not_le] at f102
              refine WA.skip ?_
              refine WA.seq ?_
              have hdr : deleteR l a n = ((goneF l (cutK l a n)), 0) := by unfold deleteR; rw [if_neg (by simp [hz]), if_neg (by omega)]
              have hgl := goneF_len l (cutK l a n)
              refine WA.region ?_
              refine WR.val (G0 rfl) rfl rfl (.move rfl rfl) ?_
              refine WR.val (G0 rfl) rfl rfl (.move rfl rfl) ?_
              refine WR.val (G0 rfl) rfl rfl (.move rfl rfl) ?_
              refine WR.dw (G0 rfl) rfl rfl (.call0 (caps := []) rfl rfl rfl EN_47 (fun w hw => deleteEF l A cap _ (hw.slf0 hS) hl a n)) ?_
              rintro _ _ ⟨_, ⟨v104, v105, rfl, rfl⟩, rfl⟩
              refine WR.val (G0 rfl) rfl rfl (.move rfl rfl) ?_
              refine WR.val (G0 rfl) rfl rfl (.extract (vs := [_, _]) rfl rfl rfl) ?_
              refine WR.val (G0 rfl) rfl rfl (.extract (vs := [_, _]) rfl rfl rfl) ?_
              refine WR.val (G0 rfl) rfl rfl (.assign rfl rfl) ?_
              refine WR.val (G0 rfl) rfl rfl (.assign rfl rfl) ?_
              refine WR.nil ?_
              refine WA.seq ?_
              refine WA.seq ?_
              rw [hdr]
              refine WA.region ?_
              refine WR.val (G0 rfl) rfl rfl (.move rfl rfl) ?_
              refine WR.val (G0 rfl) rfl rfl (.neq rfl rfl rfl) ?_
              refine WR.nil ?_
              refine WA.cond rfl (fun h107 => ?_) (fun h107 => ?_)
              · have f108 := h107
                try simp only [decide_eq_true_eq, decide_eq_false_iff_not, Bool.not_eq_true', Bool.not_eq_false', Int.not_lt, Int.not_le] at f108
                refine WA.seq ?_
                exfalso; simp_all
              · have f109 := h107
                try simp only [decide_eq_true_eq, decide_eq_false_iff_not, Bool.not_eq_true', Bool.not_eq_false', Int.not_lt, Int.not_le] at f109
                refine WA.skip ?_
                refine WA.seq ?_
                refine WA.rowcap 0 rfl (fun hcg => ?_)
                refine WA.rowcap 1 rfl (fun hcc => ?_)
                refine WA.region ?_
                refine WR.val (G0 rfl) rfl rfl (.move rfl rfl) ?_
                refine WR.val (G0 rfl) rfl rfl (.move rfl rfl) ?_
                refine WR.dw (G0 rfl) rfl rfl (.call0 (caps := []) rfl rfl rfl EN_32 (fun w hw => joinF (goneF l (cutK l a n)) (chainF d (parR l a) (maxTime l + 1) r) _ _ _ _ _ (hw.slf_row 0 rfl) (hw.slf_row 1 rfl) (by omega) (by rw [chainF_len]; omega) hcg.1 hcc.1)) ?_
                rintro _ _ ⟨_, ⟨v111, v112, rfl, rfl⟩, rfl⟩
                refine WR.val (G0 rfl) rfl rfl (.extract (vs := [_, _]) rfl rfl rfl) ?_
                refine WR.val (G0 rfl) rfl rfl (.extract (vs := [_, _]) rfl rfl rfl) ?_
                refine WR.val (G0 rfl) rfl rfl (.assign rfl rfl) ?_
                refine WR.val (G0 rfl) rfl rfl (.assign rfl rfl) ?_
                refine WR.nil ?_
                have hE : replaceR l d a n r = joinR (goneF l (cutK l a n)) (chainF d (parR l a) (maxTime l + 1) r) := by rw [hRR, if_neg (by assumption), (replace_ed hdv hz hod hex (by simp_all)).join]
                rw [hE]
                exact WA.ret2 rfl rfl rfl (.cons_cons _ (.cons _ (.cons _ (.cons _ (.cons _ .slnil))))) ⟨_, _, rfl, rfl⟩
      · have f113 := h80
        try simp only [decide_eq_true_eq, decide_eq_false_iff_not, Bool.not_eq_true', Bool.not_eq_false', Int.not_lt, Int.not_le] at f113
        refine WR.val (Gt rfl rfl rfl h80) rfl rfl (.move rfl rfl) ?_
        refine WR.dw (Gt rfl rfl rfl h80) rfl rfl (.callv (caps := []) rfl rfl rfl EN_51 (fun w hw => latestF _ _ _ _ (hw.slf0 hS) (by first | omega | (simp; omega)))) ?_
        rintro _ _ ⟨rfl, rfl⟩
        refine WR.val (Gt rfl rfl rfl h80) rfl rfl (.move rfl rfl) ?_
        refine WR.val (Gt rfl rfl rfl h80) rfl rfl (.len rfl ST_63.1 rfl) ?_
        refine WR.val (Gt rfl rfl rfl h80) rfl rfl (.sub rfl rfl rfl (by omega) (by omega)) ?_
        refine WR.val (Gt rfl rfl rfl h80) rfl rfl (.gtr rfl rfl rfl) ?_
        refine WR.val (G0 rfl) rfl rfl (.pick_f rfl rfl h80 rfl) ?_
        refine WR.dw (G0 rfl) rfl rfl (.callv (caps := []) rfl rfl rfl EN_117 (fun w hw => ewhenF _ _ w)) ?_
        rintro _ _ ⟨rfl, rfl⟩
        refine WR.dw (G0 rfl) rfl rfl (.buildSlice (k := 1) (e := 29) (vs := [_, _, _, _, _]) rfl rfl rfl (fun _ => by kernel_rfl) rfl) ?_
        rintro _ _ ⟨b116, rfl, rfl⟩
        refine WR.dw (G0 rfl) rfl rfl (.callv (caps := []) rfl rfl rfl EN_115 (fun w hw => efirstF [_, _, _, _, _] _ _ w (hw.slf_blk 0 rfl rfl (by simp [maxLen])) (by simp))) ?_
        rintro _ _ ⟨rfl, rfl⟩
        refine WR.val (G0 rfl) rfl rfl (.assign rfl rfl) ?_
        refine WR.nil ?_
        refine WA.seq ?_
        refine WA.seq ?_
        refine WA.region ?_
        refine WR.val (G0 rfl) rfl rfl (.move rfl rfl) ?_
        refine WR.val (G0 rfl) rfl rfl (.neq rfl rfl rfl) ?_
        refine WR.nil ?_
        refine WA.cond rfl (fun h118 => ?_) (fun h118 => ?_)
        · have f119 := h118
          try simp only [decide_eq_true_eq, decide_eq_false_iff_not, Bool.not_eq_true', Bool.not_eq_false', Int.not_lt, Int.not_le] at f119
          refine WA.seq ?_
          refine WA.region ?_
          refine WR.val (G0 rfl) rfl rfl (.move rfl rfl) ?_
          refine WR.val (G0 rfl) rfl rfl (.assign rfl rfl) ?_
          refine WR.val (G0 rfl) rfl rfl (.assign rfl rfl) ?_
          refine WR.nil ?_
          have hE := replace_err (d := d) ‹¬ firstE _ = 0› (by simp_all <;> omega) (by simp_all <;> omega) (by simp_all <;> omega)
          rw [hE]
          refine WA.nilrow 42 6 ?_
          exact WA.ret2 rfl rfl rfl (List.singleton_sublist.2 (List.mem_cons_self ..)) ⟨none, 0, rfl, rfl⟩
        · have f120 := h118
          try simp only [decide_eq_true_eq, decide_eq_false_iff_not, Bool.not_eq_true', Bool.not_eq_false', Int.not_lt, Int.not_le] at f120
          refine WA.skip ?_
          refine WA.seq ?_
          by_cases h121 : busy l d r = true
          · have hcr : chainR l d a r = ([], 11) := if_pos h121
            obtain ⟨hz, hdv, hn5, hod, hex⟩ := replace_facts (d := d) ‹firstE _ = 0› (by simp_all <;> omega) (by simp_all <;> omega) (by simp_all <;> omega)
            obtain ⟨hwl, ha0, hn0, hav, hnv⟩ := spanR_zero hz
            have hok := well_store hwl
            have hd0 : 0 ≤ d.c := by simp only [dvalid, decide_eq_true_eq] at hdv; omega
            have hRR : replaceR l d a n r = if busy l d r = true then ([], 11) else (deltaF l (cutK l a n) (parR l a) d r, 0) := by unfold replaceR; rw [if_neg (by simp [hwl, hdv]), if_neg (by simp [hz]), if_neg hn5, if_neg hod, if_neg hex]
            refine WA.region ?_
            refine WR.val (G0 rfl) rfl rfl (.move rfl rfl) ?_
            refine WR.val (G0 rfl) rfl rfl (.loadK (vs := [_, _]) rfl AG_39 rfl (fun _ hw => hw.rd_blk (k := 2) 1 rfl rfl)) ?_
            refine WR.val (G0 rfl) rfl rfl (.move rfl rfl) ?_
            refine WR.val (G0 rfl) rfl rfl (.move rfl rfl) ?_
            refine WR.dw (G0 rfl) rfl rfl (.call0 (caps := []) rfl rfl rfl EN_126 (fun w hw => chainEF l A cap _ (hw.slf0 hS) hl d a r A' cap' (hw.slf0 hR) (by omega) hok ha0 hav (by omega) (by omega) (by omega))) ?_
            rintro _ _ ⟨_, ⟨v123, v124, rfl, rfl⟩, rfl⟩
            refine WR.val (G0 rfl) rfl rfl (.move rfl rfl) ?_
            refine WR.val (G0 rfl) rfl rfl (.extract (vs := [_, _]) rfl rfl rfl) ?_
            refine WR.val (G0 rfl) rfl rfl (.extract (vs := [_, _]) rfl rfl rfl) ?_
            refine WR.val (G0 rfl) rfl rfl (.assign rfl rfl) ?_
            refine WR.val (G0 rfl) rfl rfl (.assign rfl rfl) ?_
            refine WR.nil ?_
            refine WA.seq ?_
            refine WA.seq ?_
            rw [hcr]
            refine WA.region ?_
            refine WR.val (G0 rfl) rfl rfl (.move rfl rfl) ?_
            refine WR.val (G0 rfl) rfl rfl (.neq rfl rfl rfl) ?_
            refine WR.nil ?_
            refine WA.cond rfl (fun h126 => ?_) (fun h126 => ?_)
            · have f127 := h126
              try simp only [decide_eq_true_eq, decide_eq_false_iff_not, Bool.not_eq_true', Bool.not_eq_false', Int.not_lt, Int.not_le] at f127
              refine WA.seq ?_
              refine WA.region ?_
              refine WR.val (G0 rfl) rfl rfl (.move rfl rfl) ?_
              refine WR.val (G0 rfl) rfl rfl (.assign rfl rfl) ?_
              refine WR.val (G0 rfl) rfl rfl (.assign rfl rfl) ?_
              refine WR.nil ?_
              have hE : replaceR l d a n r = ([], 11) := by rw [hRR, if_pos (by assumption)]
              rw [hE]
              refine WA.nilrow 42 6 ?_
              exact WA.ret2 rfl rfl rfl (List.singleton_sublist.2 (List.mem_cons_self ..)) ⟨none, 0, rfl, rfl⟩
            · have f128 := h126
              try simp only [decide_eq_true_eq, decide_eq_false_iff_not, Bool.not_eq_true', Bool.not_eq_false', Int.not_lt, Int.not_le] at f128
              refine WA.skip ?_
              refine WA.seq ?_
              exfalso; simp_all
          · have hcr : chainR l d a r = ((chainF d (parR l a) (maxTime l + 1) r), 0) := if_neg h121
            obtain ⟨hz, hdv, hn5, hod, hex⟩ := replace_facts (d := d) ‹firstE _ = 0› (by simp_all <;> omega) (by simp_all <;> omega) (by simp_all <;> omega)
            obtain ⟨hwl, ha0, hn0, hav, hnv⟩ := spanR_zero hz
            have hok := well_store hwl
            have hd0 : 0 ≤ d.c := by simp only [dvalid, decide_eq_true_eq] at hdv; omega
            have hRR : replaceR l d a n r = if busy l d r = true then ([], 11) else (deltaF l (cutK l a n) (parR l a) d r, 0) := by unfold replaceR; rw [if_neg (by simp [hwl, hdv]), if_neg (by simp [hz]), if_neg hn5, if_neg hod, if_neg hex]
            refine WA.region ?_
            refine WR.val (G0 rfl) rfl rfl (.move rfl rfl) ?_
            refine WR.val (G0 rfl) rfl rfl (.loadK (vs := [_, _]) rfl AG_39 rfl (fun _ hw => hw.rd_blk (k := 2) 1 rfl rfl)) ?_
            refine WR.val (G0 rfl) rfl rfl (.move rfl rfl) ?_
            refine WR.val (G0 rfl) rfl rfl (.move rfl rfl) ?_
            refine WR.dw (G0 rfl) rfl rfl (.call0 (caps := []) rfl rfl rfl EN_126 (fun w hw => chainEF l A cap _ (hw.slf0 hS) hl d a r A' cap' (hw.slf0 hR) (by omega) hok ha0 hav (by omega) (by omega) (by omega))) ?_
            rintro _ _ ⟨_, ⟨v130, v131, rfl, rfl⟩, rfl⟩
            refine WR.val (G0 rfl) rfl rfl (.move rfl rfl) ?_
            refine WR.val (G0 rfl) rfl rfl (.extract (vs := [_, _]) rfl rfl rfl) ?_
            refine WR.val (G0 rfl) rfl rfl (.extract (vs := [_, _]) rfl rfl rfl) ?_
            refine WR.val (G0 rfl) rfl rfl (.assign rfl rfl) ?_
            refine WR.val (G0 rfl) rfl rfl (.assign rfl rfl) ?_
            refine WR.nil ?_
            refine WA.seq ?_
            refine WA.seq ?_
            rw [hcr]
            refine WA.region ?_
            refine WR.val (G0 rfl) rfl rfl (.move rfl rfl) ?_
            refine WR.val (G0 rfl) rfl rfl (.neq rfl rfl rfl) ?_
            refine WR.nil ?_
            refine WA.cond rfl (fun h133 => ?_) (fun h133 => ?_)
            · have f134 := h133
              try simp only [decide_eq_true_eq, decide_eq_false_iff_not, Bool.not_eq_true', Bool.not_eq_false', Int.not_lt, Int.not_le] at f134
              refine WA.seq ?_
              exfalso; simp_all
            · have f135 := h133
              try simp only [decide_eq_true_eq, decide_eq_false_iff_not, Bool.not_eq_true', Bool.not_eq_false', Int.not_lt, Int.not_le] at f135
              refine WA.skip ?_
              refine WA.seq ?_
              have hdr : deleteR l a n = ((goneF l (cutK l a n)), 0) := by unfold deleteR; rw [if_neg (by simp [hz]), if_neg (by omega)]
              have hgl := goneF_len l (cutK l a n)
              refine WA.region ?_
              refine WR.val (G0 rfl) rfl rfl (.move rfl rfl) ?_
              refine WR.val (G0 rfl) rfl rfl (.move rfl rfl) ?_
              refine WR.val (G0 rfl) rfl rfl (.move rfl rfl) ?_
              refine WR.dw (G0 rfl) rfl rfl (.call0 (caps := []) rfl rfl rfl EN_47 (fun w hw => deleteEF l A cap _ (hw.slf0 hS) hl a n)) ?_
              rintro _ _ ⟨_, ⟨v137, v138, rfl, rfl⟩, rfl⟩
              refine WR.val (G0 rfl) rfl rfl (.move rfl rfl) ?_
              refine WR.val (G0 rfl) rfl rfl (.extract (vs := [_, _]) rfl rfl rfl) ?_
              refine WR.val (G0 rfl) rfl rfl (.extract (vs := [_, _]) rfl rfl rfl) ?_
              refine WR.val (G0 rfl) rfl rfl (.assign rfl rfl) ?_
              refine WR.val (G0 rfl) rfl rfl (.assign rfl rfl) ?_
              refine WR.nil ?_
              refine WA.seq ?_
              refine WA.seq ?_
              rw [hdr]
              refine WA.region ?_
              refine WR.val (G0 rfl) rfl rfl (.move rfl rfl) ?_
              refine WR.val (G0 rfl) rfl rfl (.neq rfl rfl rfl) ?_
              refine WR.nil ?_
              refine WA.cond rfl (fun h140 => ?_) (fun h140 => ?_)
              · have f141 := h140
                try simp only [decide_eq_true_eq, decide_eq_false_iff_not, Bool.not_eq_true', Bool.not_eq_false', Int.not_lt, Int.not_le] at f141
                refine WA.seq ?_
                exfalso; simp_all
              · have f142 := h140
                try simp only [decide_eq_true_eq, decide_eq_false_iff_not, Bool.not_eq_true', Bool.not_eq_false', Int.not_lt, Int.not_le] at f142
                refine WA.skip ?_
                refine WA.seq ?_
                refine WA.rowcap 0 rfl (fun hcg => ?_)
                refine WA.rowcap 1 rfl (fun hcc => ?_)
                refine WA.region ?_
                refine WR.val (G0 rfl) rfl rfl (.move rfl rfl) ?_
                refine WR.val (G0 rfl) rfl rfl (.move rfl rfl) ?_
                refine WR.dw (G0 rfl) rfl rfl (.call0 (caps := []) rfl rfl rfl EN_32 (fun w hw => joinF (goneF l (cutK l a n)) (chainF d (parR l a) (maxTime l + 1) r) _ _ _ _ _ (hw.slf_row 0 rfl) (hw.slf_row 1 rfl) (by omega) (by rw [chainF_len]; omega) hcg.1 hcc.1)) ?_
                rintro _ _ ⟨_, ⟨v144, v145, rfl, rfl⟩, rfl⟩
                refine WR.val (G0 rfl) rfl rfl (.extract (vs := [_, _]) rfl rfl rfl) ?_
                refine WR.val (G0 rfl) rfl rfl (.extract (vs := [_, _]) rfl rfl rfl) ?_
                refine WR.val (G0 rfl) rfl rfl (.assign rfl rfl) ?_
                refine WR.val (G0 rfl) rfl rfl (.assign rfl rfl) ?_
                refine WR.nil ?_
                have hE : replaceR l d a n r = joinR (goneF l (cutK l a n)) (chainF d (parR l a) (maxTime l + 1) r) := by rw [hRR, if_neg (by assumption), (replace_ed hdv hz hod hex (by simp_all)).join]
                rw [hE]
                exact WA.ret2 rfl rfl rfl (.cons_cons _ (.cons _ (.cons _ (.cons _ (.cons _ .slnil))))) ⟨_, _, rfl, rfl⟩
  · have f146 := h7
    try simp only [decide_eq_true_eq, decide_eq_false_iff_not, Bool.not_eq_true', Bool.not_eq_false', Int.not_lt, Int.not_le] at f146
    refine WR.val (Gt rfl rfl rfl h7) rfl rfl (.loadK (vs := [_, _]) rfl AG_39 rfl (fun _ hw => hw.rd_blk (k := 2) 0 rfl rfl)) ?_
    refine WR.dw (Gt rfl rfl rfl h7) rfl rfl (.callv (caps := []) rfl rfl rfl EN_125 (fun w hw => dvalidF _ w)) ?_
    rintro _ _ ⟨rfl, rfl⟩
    refine WR.val (Gt rfl rfl rfl h7) rfl rfl (.not rfl rfl) ?_
    refine WR.val (G0 rfl) rfl rfl (.pick_f rfl rfl h7 rfl) ?_
    refine WR.dw (G0 rfl) rfl rfl (.callv (caps := []) rfl rfl rfl EN_117 (fun w hw => ewhenF _ _ w)) ?_
    rintro _ _ ⟨rfl, rfl⟩
    refine WR.val (G0 rfl) rfl rfl (.move rfl rfl) ?_
    refine WR.val (G0 rfl) rfl rfl (.move rfl rfl) ?_
    refine WR.val (G0 rfl) rfl rfl (.move rfl rfl) ?_
    refine WR.dw (G0 rfl) rfl rfl (.callv (caps := []) rfl rfl rfl EN_116 (fun w hw => spanF _ _ _ _ (hw.slf0 hS) (by first | omega | (simp; omega)) _ _)) ?_
    rintro _ _ ⟨rfl, rfl⟩
    refine WR.val (G0 rfl) rfl rfl (.move rfl rfl) ?_
    refine WR.val (G0 rfl) rfl rfl (.gtr rfl rfl rfl) ?_
    refine WR.val (G0 rfl) rfl rfl (.move rfl rfl) ?_
    refine WR.split (d := 41) rfl (fun h150 => ?_) (fun h150 => ?_)
    · have f151 := h150
      try simp only [decide_eq_true_eq, decide_eq_false_iff_not, Bool.not_eq_true', Bool.not_eq_false', Int.not_lt, Int.not_le] at f151
      refine WR.off (Gf rfl rfl rfl h150) rfl rfl ?_
      refine WR.off (Gf rfl rfl rfl h150) rfl rfl ?_
      refine WR.off (Gf rfl rfl rfl h150) rfl rfl ?_
      refine WR.val (G0 rfl) rfl rfl (.pick_t rfl rfl h150 rfl) ?_
      refine WR.dw (G0 rfl) rfl rfl (.callv (caps := []) rfl rfl rfl EN_117 (fun w hw => ewhenF _ _ w)) ?_
      rintro _ _ ⟨rfl, rfl⟩
      refine WR.val (G0 rfl) rfl rfl (.move rfl rfl) ?_
      refine WR.dw (G0 rfl) rfl rfl (.callv (caps := []) rfl rfl rfl EN_117 (fun w hw => ewhenF _ _ w)) ?_
      rintro _ _ ⟨rfl, rfl⟩
      refine WR.val (G0 rfl) rfl rfl (.move rfl rfl) ?_
      refine WR.val (G0 rfl) rfl rfl (.move rfl rfl) ?_
      refine WR.split (d := 50) rfl (fun h152 => ?_) (fun h152 => ?_)
      · have f153 := h152
        try simp only [decide_eq_true_eq, decide_eq_false_iff_not, Bool.not_eq_true', Bool.not_eq_false', Int.not_lt, Int.not_le] at f153
        refine WR.off (Gf rfl rfl rfl h152) rfl rfl ?_
        refine WR.off (Gf rfl rfl rfl h152) rfl rfl ?_
        refine WR.off (Gf rfl rfl rfl h152) rfl rfl ?_
        refine WR.off (Gf rfl rfl rfl h152) rfl rfl ?_
        refine WR.off (Gf rfl rfl rfl h152) rfl rfl ?_
        refine WR.off (Gf rfl rfl rfl h152) rfl rfl ?_
        refine WR.val (G0 rfl) rfl rfl (.pick_t rfl rfl h152 rfl) ?_
        refine WR.dw (G0 rfl) rfl rfl (.callv (caps := []) rfl rfl rfl EN_117 (fun w hw => ewhenF _ _ w)) ?_
        rintro _ _ ⟨rfl, rfl⟩
        refine WR.dw (G0 rfl) rfl rfl (.buildSlice (k := 1) (e := 29) (vs := [_, _, _, _, _]) rfl rfl rfl (fun _ => by kernel_rfl) rfl) ?_
        rintro _ _ ⟨b155, rfl, rfl⟩
        refine WR.dw (G0 rfl) rfl rfl (.callv (caps := []) rfl rfl rfl EN_115 (fun w hw => efirstF [_, _, _, _, _] _ _ w (hw.slf_blk 0 rfl rfl (by simp [maxLen])) (by simp))) ?_
        rintro _ _ ⟨rfl, rfl⟩
        refine WR.val (G0 rfl) rfl rfl (.assign rfl rfl) ?_
        refine WR.nil ?_
        refine WA.seq ?_
        refine WA.seq ?_
        refine WA.region ?_
        refine WR.val (G0 rfl) rfl rfl (.move rfl rfl) ?_
        refine WR.val (G0 rfl) rfl rfl (.neq rfl rfl rfl) ?_
        refine WR.nil ?_
        refine WA.cond rfl (fun h157 => ?_) (fun h157 => ?_)
        · have f158 := h157
          try simp only [decide_eq_true_eq, decide_eq_false_iff_not, Bool.not_eq_true', Bool.not_eq_false', Int.not_lt, Int.not_le] at f158
          refine WA.seq ?_
          refine WA.region ?_
          refine WR.val (G0 rfl) rfl rfl (.move rfl rfl) ?_
          refine WR.val (G0 rfl) rfl rfl (.assign rfl rfl) ?_
          refine WR.val (G0 rfl) rfl rfl (.assign rfl rfl) ?_
          refine WR.nil ?_
          have hE := replace_err (d := d) ‹¬ firstE _ = 0› (by simp_all <;> omega) (by simp_all <;> omega) (by simp_all <;> omega)
          rw [hE]
          refine WA.nilrow 42 6 ?_
          exact WA.ret2 rfl rfl rfl (List.singleton_sublist.2 (List.mem_cons_self ..)) ⟨none, 0, rfl, rfl⟩
        · have f159 := h157
          try simp only [decide_eq_true_eq, decide_eq_false_iff_not, Bool.not_eq_true', Bool.not_eq_false', Int.not_lt, Int.not_le] at f159
          refine WA.skip ?_
          refine WA.seq ?_
          by_cases h160 : busy l d r = true
          · have hcr : chainR l d a r = ([], 11) := if_pos h160
            obtain ⟨hz, hdv, hn5, hod, hex⟩ := replace_facts (d := d) ‹firstE _ = 0› (by simp_all <;> omega) (by simp_all <;> omega) (by simp_all <;> omega)
            obtain ⟨hwl, ha0, hn0, hav, hnv⟩ := spanR_zero hz
            have hok := well_store hwl
            have hd0 : 0 ≤ d.c := by simp only [dvalid, decide_eq_true_eq] at hdv; omega
            have hRR : replaceR l d a n r = if busy l d r = true then ([], 11) else (deltaF l (cutK l a n) (parR l a) d r, 0) := by unfold replaceR; rw [if_neg (by simp [hwl, hdv]), if_neg (by simp [hz]), if_neg hn5, if_neg hod, if_neg hex]
            refine WA.region ?_
            refine WR.val (G0 rfl) rfl rfl (.move rfl rfl) ?_
            refine WR.val (G0 rfl) rfl rfl (.loadK (vs := [_, _]) rfl AG_39 rfl (fun _ hw => hw.rd_blk (k := 2) 1 rfl rfl)) ?_
            refine WR.val (G0 rfl) rfl rfl (.move rfl rfl) ?_
            refine WR.val (G0 rfl) rfl rfl (.move rfl rfl) ?_
            refine WR.dw (G0 rfl) rfl rfl (.call0 (caps := []) rfl rfl rfl EN_126 (fun w hw => chainEF l A cap _ (hw.slf0 hS) hl d a r A' cap' (hw.slf0 hR) (by omega) hok ha0 hav (by omega) (by omega) (by omega))) ?_
            rintro _ _ ⟨_, ⟨v162, v163, rfl, rfl⟩, rfl⟩
            refine WR.val (G0 rfl) rfl rfl (.move rfl rfl) ?_
            refine WR.val (G0 rfl) rfl rfl (.extract (vs := [_, _]) rfl rfl rfl) ?_
            refine WR.val (G0 rfl) rfl rfl (.extract (vs := [_, _]) rfl rfl rfl) ?_
            refine WR.val (G0 rfl) rfl rfl (.assign rfl rfl) ?_
            refine WR.val (G0 rfl) rfl rfl (.assign rfl rfl) ?_
            refine WR.nil ?_
            refine WA.seq ?_
            refine WA.seq ?_
            rw [hcr]
            refine WA.region ?_
            refine WR.val (G0 rfl) rfl rfl (.move rfl rfl) ?_
            refine WR.val (G0 rfl) rfl rfl (.neq rfl rfl rfl) ?_
            refine WR.nil ?_
            refine WA.cond rfl (fun h165 => ?_) (fun h165 => ?_)
            · have f166 := h165
              try simp only [decide_eq_true_eq, decide_eq_false_iff_not, Bool.not_eq_true', Bool.not_eq_false', Int.not_lt, Int.not_le] at f166
              refine WA.seq ?_
              refine WA.region ?_
              refine WR.val (G0 rfl) rfl rfl (.move rfl rfl) ?_
              refine WR.val (G0 rfl) rfl rfl (.assign rfl rfl) ?_
              refine WR.val (G0 rfl) rfl rfl (.assign rfl rfl) ?_
              refine WR.nil ?_
              have hE : replaceR l d a n r = ([], 11) := by rw [hRR, if_pos (by assumption)]
              rw [hE]
              refine WA.nilrow 42 6 ?_
              exact WA.ret2 rfl rfl rfl (List.singleton_sublist.2 (List.mem_cons_self ..)) ⟨none, 0, rfl, rfl⟩
            · have f167 := h165
              try simp only [decide_eq_true_eq, decide_eq_false_iff_not, Bool.not_eq_true', Bool.not_eq_false', Int.not_lt, Int.not_le] at f167
              refine WA.skip ?_
              refine WA.seq ?_
              exfalso; simp_all
          · have hcr : chainR l d a r = ((chainF d (parR l a) (maxTime l + 1) r), 0) := if_neg h160
            obtain ⟨hz, hdv, hn5, hod, hex⟩ := replace_facts (d := d) ‹firstE _ = 0› (by simp_all <;> omega) (by simp_all <;> omega) (by simp_all <;> omega)
            obtain ⟨hwl, ha0, hn0, hav, hnv⟩ := spanR_zero hz
            have hok := well_store hwl
            have hd0 : 0 ≤ d.c := by simp only [dvalid, decide_eq_true_eq] at hdv; omega
            have hRR : replaceR l d a n r = if busy l d r = true then ([], 11) else (deltaF l (cutK l a n) (parR l a) d r, 0) := by unfold replaceR; rw [if_neg (by simp [hwl, hdv]), if_neg (by simp [hz]), if_neg hn5, if_neg hod, if_neg hex]
            refine WA.region ?_
            refine WR.val (G0 rfl) rfl rfl (.move rfl rfl) ?_
            refine WR.val (G0 rfl) rfl rfl (.loadK (vs := [_, _]) rfl AG_39 rfl (fun _ hw => hw.rd_blk (k := 2) 1 rfl rfl)) ?_
            refine WR.val (G0 rfl) rfl rfl (.move rfl rfl) ?_
            refine WR.val (G0 rfl) rfl rfl (.move rfl rfl) ?_
            refine WR.dw (G0 rfl) rfl rfl (.call0 (caps := []) rfl rfl rfl EN_126 (fun w hw => chainEF l A cap _ (hw.slf0 hS) hl d a r A' cap' (hw.slf0 hR) (by omega) hok ha0 hav (by omega) (by omega) (by omega))) ?_
            rintro _ _ ⟨_, ⟨v169, v170, rfl, rfl⟩, rfl⟩
            refine WR.val (G0 rfl) rfl rfl (.move rfl rfl) ?_
            refine WR.val (G0 rfl) rfl rfl (.extract (vs := [_, _]) rfl rfl rfl) ?_
            refine WR.val (G0 rfl) rfl rfl (.extract (vs := [_, _]) rfl rfl rfl) ?_
            refine WR.val (G0 rfl) rfl rfl (.assign rfl rfl) ?_
            refine WR.val (G0 rfl) rfl rfl (.assign rfl rfl) ?_
            refine WR.nil ?_
            refine WA.seq ?_
            refine WA.seq ?_
            rw [hcr]
            refine WA.region ?_
            refine WR.val (G0 rfl) rfl rfl (.move rfl rfl) ?_
            refine WR.val (G0 rfl) rfl rfl (.neq rfl rfl rfl) ?_
            refine WR.nil ?_
            refine WA.cond rfl (fun h172 => ?_) (fun h172 => ?_)
            · have f173 := h172
              try simp only [decide_eq_true_eq, decide_eq_false_iff_not, Bool.not_eq_true', Bool.not_eq_false', Int.not_lt, Int.not_le] at f173
              refine WA.seq ?_
              exfalso; simp_all
            · have f174 := h172
              try simp only [decide_eq_true_eq, decide_eq_false_iff_not, Bool.not_eq_true', Bool.not_eq_false', Int.not_lt, Int.not_le] at f174
              refine WA.skip ?_
              refine WA.seq ?_
              have hdr : deleteR l a n = ((goneF l (cutK l a n)), 0) := by unfold deleteR; rw [if_neg (by simp [hz]), if_neg (by omega)]
              have hgl := goneF_len l (cutK l a n)
              refine WA.region ?_
              refine WR.val (G0 rfl) rfl rfl (.move rfl rfl) ?_
              refine WR.val (G0 rfl) rfl rfl (.move rfl rfl) ?_
              refine WR.val (G0 rfl) rfl rfl (.move rfl rfl) ?_
              refine WR.dw (G0 rfl) rfl rfl (.call0 (caps := []) rfl rfl rfl EN_47 (fun w hw => deleteEF l A cap _ (hw.slf0 hS) hl a n)) ?_
              rintro _ _ ⟨_, ⟨v176, v177, rfl, rfl⟩, rfl⟩
              refine WR.val (G0 rfl) rfl rfl (.move rfl rfl) ?_
              refine WR.val (G0 rfl) rfl rfl (.extract (vs := [_, _]) rfl rfl rfl) ?_
              refine WR.val (G0 rfl) rfl rfl (.extract (vs := [_, _]) rfl rfl rfl) ?_
              refine WR.val (G0 rfl) rfl rfl (.assign rfl rfl) ?_
              refine WR.val (G0 rfl) rfl rfl (.assign rfl rfl) ?_
              refine WR.nil ?_
              refine WA.seq ?_
              refine WA.seq ?_
              rw [hdr]
              refine WA.region ?_
              refine WR.val (G0 rfl) rfl rfl (.move rfl rfl) ?_
              refine WR.val (G0 rfl) rfl rfl (.neq rfl rfl rfl) ?_
              refine WR.nil ?_
              refine WA.cond rfl (fun h179 => ?_) (fun h179 => ?_)
              · have f180 := h179
                try simp only [decide_eq_true_eq, decide_eq_false_iff_not, Bool.not_eq_true', Bool.not_eq_false', Int.not_lt, Int.not_le] at f180
                refine WA.seq ?_
                exfalso; simp_all
              · have f181 := h179
                try simp only [decide_eq_true_eq, decide_eq_false_iff_not, Bool.not_eq_true', Bool.not_eq_false', Int.not_lt, Int.not_le] at f181
                refine WA.skip ?_
                refine WA.seq ?_
                refine WA.rowcap 0 rfl (fun hcg => ?_)
                refine WA.rowcap 1 rfl (fun hcc => ?_)
                refine WA.region ?_
                refine WR.val (G0 rfl) rfl rfl (.move rfl rfl) ?_
                refine WR.val (G0 rfl) rfl rfl (.move rfl rfl) ?_
                refine WR.dw (G0 rfl) rfl rfl (.call0 (caps := []) rfl rfl rfl EN_32 (fun w hw => joinF (goneF l (cutK l a n)) (chainF d (parR l a) (maxTime l + 1) r) _ _ _ _ _ (hw.slf_row 0 rfl) (hw.slf_row 1 rfl) (by omega) (by rw [chainF_len]; omega) hcg.1 hcc.1)) ?_
                rintro _ _ ⟨_, ⟨v183, v184, rfl, rfl⟩, rfl⟩
                refine WR.val (G0 rfl) rfl rfl (.extract (vs := [_, _]) rfl rfl rfl) ?_
                refine WR.val (G0 rfl) rfl rfl (.extract (vs := [_, _]) rfl rfl rfl) ?_
                refine WR.val (G0 rfl) rfl rfl (.assign rfl rfl) ?_
                refine WR.val (G0 rfl) rfl rfl (.assign rfl rfl) ?_
                refine WR.nil ?_
                have hE : replaceR l d a n r = joinR (goneF l (cutK l a n)) (chainF d (parR l a) (maxTime l + 1) r) := by rw [hRR, if_neg (by assumption), (replace_ed hdv hz hod hex (by simp_all)).join]
                rw [hE]
                exact WA.ret2 rfl rfl rfl (.cons_cons _ (.cons _ (.cons _ (.cons _ (.cons _ .slnil))))) ⟨_, _, rfl, rfl⟩
      · have f185 := h152
        try simp only [decide_eq_true_eq, decide_eq_false_iff_not, Bool.not_eq_true', Bool.not_eq_false', Int.not_lt, Int.not_le] at f185
        refine WR.val (Gt rfl rfl rfl h152) rfl rfl (.move rfl rfl) ?_
        refine WR.dw (Gt rfl rfl rfl h152) rfl rfl (.callv (caps := []) rfl rfl rfl EN_51 (fun w hw => latestF _ _ _ _ (hw.slf0 hS) (by first | omega | (simp; omega)))) ?_
        rintro _ _ ⟨rfl, rfl⟩
        refine WR.val (Gt rfl rfl rfl h152) rfl rfl (.move rfl rfl) ?_
        refine WR.val (Gt rfl rfl rfl h152) rfl rfl (.len rfl ST_63.1 rfl) ?_
        refine WR.val (Gt rfl rfl rfl h152) rfl rfl (.sub rfl rfl rfl (by omega) (by omega)) ?_
        refine WR.val (Gt rfl rfl rfl h152) rfl rfl (.gtr rfl rfl rfl) ?_
        refine WR.val (G0 rfl) rfl rfl (.pick_f rfl rfl h152 rfl) ?_
        refine WR.dw (G0 rfl) rfl rfl (.callv (caps := []) rfl rfl rfl EN_117 (fun w hw => ewhenF _ _ w)) ?_
        rintro _ _ ⟨rfl, rfl⟩
        refine WR.dw (G0 rfl) rfl rfl (.buildSlice (k := 1) (e := 29) (vs := [_, _, _, _, _]) rfl rfl rfl (fun _ => by kernel_rfl) rfl) ?_
        rintro _ _ ⟨b188, rfl, rfl⟩
        refine WR.dw (G0 rfl) rfl rfl (.callv (caps := []) rfl rfl rfl EN_115 (fun w hw => efirstF [_, _, _, _, _] _ _ w (hw.slf_blk 0 rfl rfl (by simp [maxLen])) (by simp))) ?_
        rintro _ _ ⟨rfl, rfl⟩
        refine WR.val (G0 rfl) rfl rfl (.assign rfl rfl) ?_
        refine WR.nil ?_
        refine WA.seq ?_
        refine WA.seq ?_
        refine WA.region ?_
        refine WR.val (G0 rfl) rfl rfl (.move rfl rfl) ?_
        refine WR.val (G0 rfl) rfl rfl (.neq rfl rfl rfl) ?_
        refine WR.nil ?_
        refine WA.cond rfl (fun h190 => ?_) (fun h190 => ?_)
        · have f191 := h190
          try simp only [decide_eq_true_eq, decide_eq_false_iff_not, Bool.not_eq_true', Bool.not_eq_false', Int.not_lt, Int.not_le] at f191
          refine WA.seq ?_
          refine WA.region ?_
          refine WR.val (G0 rfl) rfl rfl (.move rfl rfl) ?_
          refine WR.val (G0 rfl) rfl rfl (.assign rfl rfl) ?_
          refine WR.val (G0 rfl) rfl rfl (.assign rfl rfl) ?_
          refine WR.nil ?_
          have hE := replace_err (d := d) ‹¬ firstE _ = 0› (by simp_all <;> omega) (by simp_all <;> omega) (by simp_all <;> omega)
          rw [hE]
          refine WA.nilrow 42 6 ?_
          exact WA.ret2 rfl rfl rfl (List.singleton_sublist.2 (List.mem_cons_self ..)) ⟨none, 0, rfl, rfl⟩
        · have f192 := h190
          try simp only [decide_eq_true_eq, decide_eq_false_iff_not, Bool.not_eq_true', Bool.not_eq_false', Int.not_lt, Int.not_le] at f192
          refine WA.skip ?_
          refine WA.seq ?_
          by_cases h193 : busy l d r = true
          · have hcr : chainR l d a r = ([], 11) := if_pos h193
            obtain ⟨hz, hdv, hn5, hod, hex⟩ := replace_facts (d := d) ‹firstE _ = 0› (by simp_all <;> omega) (by simp_all <;> omega) (by simp_all <;> omega)
            obtain ⟨hwl, ha0, hn0, hav, hnv⟩ := spanR_zero hz
            have hok := well_store hwl
            have hd0 : 0 ≤ d.c := by simp only [dvalid, decide_eq_true_eq] at hdv; omega
            have hRR : replaceR l d a n r = if busy l d r = true then ([], 11) else (deltaF l (cutK l a n) (parR l a) d r, 0) := by unfold replaceR; rw [if_neg (by simp [hwl, hdv]), if_neg (by simp [hz]), if_neg hn5, if_neg hod, if_neg hex]
            refine WA.region ?_
            refine WR.val (G0 rfl) rfl rfl (.move rfl rfl) ?_
            refine WR.val (G0 rfl) rfl rfl (.loadK (vs := [_, _]) rfl AG_39 rfl (fun _ hw => hw.rd_blk (k := 2) 1 rfl rfl)) ?_
            refine WR.val (G0 rfl) rfl rfl (.move rfl rfl) ?_
            refine WR.val (G0 rfl) rfl rfl (.move rfl rfl) ?_
            refine WR.dw (G0 rfl) rfl rfl (.call0 (caps := []) rfl rfl rfl EN_126 (fun w hw => chainEF l A cap _ (hw.slf0 hS) hl d a r A' cap' (hw.slf0 hR) (by omega) hok ha0 hav (by omega) (by omega) (by omega))) ?_
            rintro _ _ ⟨_, ⟨v195, v196, rfl, rfl⟩, rfl⟩
            refine WR.val (G0 rfl) rfl rfl (.move rfl rfl) ?_
            refine WR.val (G0 rfl) rfl rfl (.extract (vs := [_, _]) rfl rfl rfl) ?_
            refine WR.val (G0 rfl) rfl rfl (.extract (vs := [_, _]) rfl rfl rfl) ?_
            refine WR.val (G0 rfl) rfl rfl (.assign rfl rfl) ?_
            refine WR.val (G0 rfl) rfl rfl (.assign rfl rfl) ?_
            refine WR.nil ?_
            refine WA.seq ?_
            refine WA.seq ?_
            rw [hcr]
            refine WA.region ?_
            refine WR.val (G0 rfl) rfl rfl (.move rfl rfl) ?_
            refine WR.val (G0 rfl) rfl rfl (.neq rfl rfl rfl) ?_
            refine WR.nil ?_
            refine WA.cond rfl (fun h198 => ?_) (fun h198 => ?_)
            · have f199 := h198
              try simp only [decide_eq_true_eq, decide_eq_false_iff_not, Bool.not_eq_true', Bool.not_eq_false', Int.not_lt, Int.not_le] at f199
              refine WA.seq ?_
              refine WA.region ?_
              refine WR.val (G0 rfl) rfl rfl (.move rfl rfl) ?_
              refine WR.val (G0 rfl) rfl rfl (.assign rfl rfl) ?_
              refine WR.val (G0 rfl) rfl rfl (.assign rfl rfl) ?_
              refine WR.nil ?_
              have hE : replaceR l d a n r = ([], 11) := by rw [hRR, if_pos (by assumption)]
              rw [hE]
              refine WA.nilrow 42 6 ?_
              exact WA.ret2 rfl rfl rfl (List.singleton_sublist.2 (List.mem_cons_self ..)) ⟨none, 0, rfl, rfl⟩
            · have f200 := h198
              try simp only [decide_eq_true_eq, decide_eq_false_iff_not, Bool.not_eq_true', Bool.not_eq_false', Int.not_lt, Int.not_le] at f200
              refine WA.skip ?_
              refine WA.seq ?_
              exfalso; simp_all
          · have hcr : chainR l d a r = ((chainF d (parR l a) (maxTime l + 1) r), 0) := if_neg h193
            obtain ⟨hz, hdv, hn5, hod, hex⟩ := replace_facts (d := d) ‹firstE _ = 0› (by simp_all <;> omega) (by simp_all <;> omega) (by simp_all <;> omega)
            obtain ⟨hwl, ha0, hn0, hav, hnv⟩ := spanR_zero hz
            have hok := well_store hwl
            have hd0 : 0 ≤ d.c := by simp only [dvalid, decide_eq_true_eq] at hdv; omega
            have hRR : replaceR l d a n r = if busy l d r = true then ([], 11) else (deltaF l (cutK l a n) (parR l a) d r, 0) := by unfold replaceR; rw [if_neg (by simp [hwl, hdv]), if_neg (by simp [hz]), if_neg hn5, if_neg hod, if_neg hex]
            refine WA.region ?_
            refine WR.val (G0 rfl) rfl rfl (.move rfl rfl) ?_
            refine WR.val (G0 rfl) rfl rfl (.loadK (vs := [_, _]) rfl AG_39 rfl (fun _ hw => hw.rd_blk (k := 2) 1 rfl rfl)) ?_
            refine WR.val (G0 rfl) rfl rfl (.move rfl rfl) ?_
            refine WR.val (G0 rfl) rfl rfl (.move rfl rfl) ?_
            refine WR.dw (G0 rfl) rfl rfl (.call0 (caps := []) rfl rfl rfl EN_126 (fun w hw => chainEF l A cap _ (hw.slf0 hS) hl d a r A' cap' (hw.slf0 hR) (by omega) hok ha0 hav (by omega) (by omega) (by omega))) ?_
            rintro _ _ ⟨_, ⟨v202, v203, rfl, rfl⟩, rfl⟩
            refine WR.val (G0 rfl) rfl rfl (.move rfl rfl) ?_
            refine WR.val (G0 rfl) rfl rfl (.extract (vs := [_, _]) rfl rfl rfl) ?_
            refine WR.val (G0 rfl) rfl rfl (.extract (vs := [_, _]) rfl rfl rfl) ?_
            refine WR.val (G0 rfl) rfl rfl (.assign rfl rfl) ?_
            refine WR.val (G0 rfl) rfl rfl (.assign rfl rfl) ?_
            refine WR.nil ?_
            refine WA.seq ?_
            refine WA.seq ?_
            rw [hcr]
            refine WA.region ?_
            refine WR.val (G0 rfl) rfl rfl (.move rfl rfl) ?_
            refine WR.val (G0 rfl) rfl rfl (.neq rfl rfl rfl) ?_
            refine WR.nil ?_
            refine WA.cond rfl (fun h205 => ?_) (fun h205 => ?_)
            · have f206 := h205
              try simp only [decide_eq_true_eq, decide_eq_false_iff_not, Bool.not_eq_true', Bool.not_eq_false', Int.not_lt, Int.not_le] at f206
              refine WA.seq ?_
              exfalso; simp_all
            · have f207 := h205
              try simp only [decide_eq_true_eq, decide_eq_false_iff_not, Bool.not_eq_true', Bool.not_eq_false', Int.not_lt, Int.not_le] at f207
              refine WA.skip ?_
              refine WA.seq ?_
              have hdr : deleteR l a n = ((goneF l (cutK l a n)), 0) := by unfold deleteR; rw [if_neg (by simp [hz]), if_neg (by omega)]
              have hgl := goneF_len l (cutK l a n)
              refine WA.region ?_
              refine WR.val (G0 rfl) rfl rfl (.move rfl rfl) ?_
              refine WR.val (G0 rfl) rfl rfl (.move rfl rfl) ?_
              refine WR.val (G0 rfl) rfl rfl (.move rfl rfl) ?_
              refine WR.dw (G0 rfl) rfl rfl (.call0 (caps := []) rfl rfl rfl EN_47 (fun w hw => deleteEF l A cap _ (hw.slf0 hS) hl a n)) ?_
              rintro _ _ ⟨_, ⟨v209, v210, rfl, rfl⟩, rfl⟩
              refine WR.val (G0 rfl) rfl rfl (.move rfl rfl) ?_
              refine WR.val (G0 rfl) rfl rfl (.extract (vs := [_, _]) rfl rfl rfl) ?_
              refine WR.val (G0 rfl) rfl rfl (.extract (vs := [_, _]) rfl rfl rfl) ?_
              refine WR.val (G0 rfl) rfl rfl (.assign rfl rfl) ?_
              refine WR.val (G0 rfl) rfl rfl (.assign rfl rfl) ?_
              refine WR.nil ?_
              refine WA.seq ?_
              refine WA.seq ?_
              rw [hdr]
              refine WA.region ?_
              refine WR.val (G0 rfl) rfl rfl (.move rfl rfl) ?_
              refine WR.val (G0 rfl) rfl rfl (.neq rfl rfl rfl) ?_
              refine WR.nil ?_
              refine WA.cond rfl (fun h212 => ?_) (fun h212 => ?_)
              · have f213 := h212
                try simp only [decide_eq_true_eq, decide_eq_false_iff_not, Bool.not_eq_true', Bool.not_eq_false', Int.not_lt, Int.not_le] at f213
                refine WA.seq ?_
                exfalso; simp_all
              · have f214 := h212
                try simp only [decide_eq_true_eq, decide_eq_false_iff_not, Bool.not_eq_true', Bool.not_eq_false', Int.not_lt, Int.not_le] at f214
                refine WA.skip ?_
                refine WA.seq ?_
                refine WA.rowcap 0 rfl (fun hcg => ?_)
                refine WA.rowcap 1 rfl (fun hcc => ?_)
                refine WA.region ?_
                refine WR.val (G0 rfl) rfl rfl (.move rfl rfl) ?_
                refine WR.val (G0 rfl) rfl rfl (.move rfl rfl) ?_
                refine WR.dw (G0 rfl) rfl rfl (.call0 (caps := []) rfl rfl rfl EN_32 (fun w hw => joinF (goneF l (cutK l a n)) (chainF d (parR l a) (maxTime l + 1) r) _ _ _ _ _ (hw.slf_row 0 rfl) (hw.slf_row 1 rfl) (by omega) (by rw [chainF_len]; omega) hcg.1 hcc.1)) ?_
                rintro _ _ ⟨_, ⟨v216, v217, rfl, rfl⟩, rfl⟩
                refine WR.val (G0 rfl) rfl rfl (.extract (vs := [_, _]) rfl rfl rfl) ?_
                refine WR.val (G0 rfl) rfl rfl (.extract (vs := [_, _]) rfl rfl rfl) ?_
                refine WR.val (G0 rfl) rfl rfl (.assign rfl rfl) ?_
                refine WR.val (G0 rfl) rfl rfl (.assign rfl rfl) ?_
                refine WR.nil ?_
                have hE : replaceR l d a n r = joinR (goneF l (cutK l a n)) (chainF d (parR l a) (maxTime l + 1) r) := by rw [hRR, if_neg (by assumption), (replace_ed hdv hz hod hex (by simp_all)).join]
                rw [hE]
                exact WA.ret2 rfl rfl rfl (.cons_cons _ (.cons _ (.cons _ (.cons _ (.cons _ .slnil))))) ⟨_, _, rfl, rfl⟩
    · have f218 := h150
      try simp only [decide_eq_true_eq, decide_eq_false_iff_not, Bool.not_eq_true', Bool.not_eq_false', Int.not_lt, Int.not_le] at f218
      refine WR.val (Gt rfl rfl rfl h150) rfl rfl (.move rfl rfl) ?_
      refine WR.val (Gt rfl rfl rfl h150) rfl rfl (.len rfl ST_63.1 rfl) ?_
      refine WR.val (Gt rfl rfl rfl h150) rfl rfl (.gtr rfl rfl rfl) ?_
      refine WR.val (G0 rfl) rfl rfl (.pick_f rfl rfl h150 rfl) ?_
      refine WR.dw (G0 rfl) rfl rfl (.callv (caps := []) rfl rfl rfl EN_117 (fun w hw => ewhenF _ _ w)) ?_
      rintro _ _ ⟨rfl, rfl⟩
      refine WR.val (G0 rfl) rfl rfl (.move rfl rfl) ?_
      refine WR.dw (G0 rfl) rfl rfl (.callv (caps := []) rfl rfl rfl EN_117 (fun w hw => ewhenF _ _ w)) ?_
      rintro _ _ ⟨rfl, rfl⟩
      refine WR.val (G0 rfl) rfl rfl (.move rfl rfl) ?_
      refine WR.val (G0 rfl) rfl rfl (.move rfl rfl) ?_
      refine WR.split (d := 50) rfl (fun h220 => ?_) (fun h220 => ?_)
      · have f221 := h220
        try simp only [decide_eq_true_eq, decide_eq_false_iff_not, Bool.not_eq_true', Bool.not_eq_false', Int.not_lt, Int.not_le] at f221
        refine WR.off (Gf rfl rfl rfl h220) rfl rfl ?_
        refine WR.off (Gf rfl rfl rfl h220) rfl rfl ?_
        refine WR.off (Gf rfl rfl rfl h220) rfl rfl ?_
        refine WR.off (Gf rfl rfl rfl h220) rfl rfl ?_
        refine WR.off (Gf rfl rfl rfl h220) rfl rfl ?_
        refine WR.off (Gf rfl rfl rfl h220) rfl rfl ?_
        refine WR.val (G0 rfl) rfl rfl (.pick_t rfl rfl h220 rfl) ?_
        refine WR.dw (G0 rfl) rfl rfl (.callv (caps := []) rfl rfl rfl EN_117 (fun w hw => ewhenF _ _ w)) ?_
        rintro _ _ ⟨rfl, rfl⟩
        refine WR.dw (G0 rfl) rfl rfl (.buildSlice (k := 1) (e := 29) (vs := [_, _, _, _, _]) rfl rfl rfl (fun _ => by kernel_rfl) rfl) ?_
        rintro _ _ ⟨b223, rfl, rfl⟩
        refine WR.dw (G0 rfl) rfl rfl (.callv (caps := []) rfl rfl rfl EN_115 (fun w hw => efirstF [_, _, _, _, _] _ _ w (hw.slf_blk 0 rfl rfl (by simp [maxLen])) (by simp))) ?_
        rintro _ _ ⟨rfl, rfl⟩
        refine WR.val (G0 rfl) rfl rfl (.assign rfl rfl) ?_
        refine WR.nil ?_
        refine WA.seq ?_
        refine WA.seq ?_
        refine WA.region ?_
        refine WR.val (G0 rfl) rfl rfl (.move rfl rfl) ?_
        refine WR.val (G0 rfl) rfl rfl (.neq rfl rfl rfl) ?_
        refine WR.nil ?_
        refine WA.cond rfl (fun h225 => ?_) (fun h225 => ?_)
        · have f226 := h225
          try simp only [decide_eq_true_eq, decide_eq_false_iff_not, Bool.not_eq_true', Bool.not_eq_false', Int.not_lt, Int.not_le] at f226
          refine WA.seq ?_
          refine WA.region ?_
          refine WR.val (G0 rfl) rfl rfl (.move rfl rfl) ?_
          refine WR.val (G0 rfl) rfl rfl (.assign rfl rfl) ?_
          refine WR.val (G0 rfl) rfl rfl (.assign rfl rfl) ?_
          refine WR.nil ?_
          have hE := replace_err (d := d) ‹¬ firstE _ = 0› (by simp_all <;> omega) (by simp_all <;> omega) (by simp_all <;> omega)
          rw [hE]
          refine WA.nilrow 42 6 ?_
          exact WA.ret2 rfl rfl rfl (List.singleton_sublist.2 (List.mem_cons_self ..)) ⟨none, 0, rfl, rfl⟩
        · have f227 := h225
          try simp only [decide_eq_true_eq, decide_eq_false_iff_not, Bool.not_eq_true', Bool.not_eq_false', Int.not_lt, Int.not_le] at f227
          refine WA.skip ?_
          refine WA.seq ?_
          by_cases h228 : busy l d r = true
          · have hcr : chainR l d a r = ([], 11) := if_pos h228
            obtain ⟨hz, hdv, hn5, hod, hex⟩ := replace_facts (d := d) ‹firstE _ = 0› (by simp_all <;> omega) (by simp_all <;> omega) (by simp_all <;> omega)
            obtain ⟨hwl, ha0, hn0, hav, hnv⟩ := spanR_zero hz
            have hok := well_store hwl
            have hd0 : 0 ≤ d.c := by simp only [dvalid, decide_eq_true_eq] at hdv; omega
            have hRR : replaceR l d a n r = if busy l d r = true then ([], 11) else (deltaF l (cutK l a n) (parR l a) d r, 0) := by unfold replaceR; rw [if_neg (by simp [hwl, hdv]), if_neg (by simp [hz]), if_neg hn5, if_neg hod, if_neg hex]
            refine WA.region ?_
            refine WR.val (G0 rfl) rfl rfl (.move rfl rfl) ?_
            refine WR.val (G0 rfl) rfl rfl (.loadK (vs := [_, _]) rfl AG_39 rfl (fun _ hw => hw.rd_blk (k := 2) 1 rfl rfl)) ?_
            refine WR.val (G0 rfl) rfl rfl (.move rfl rfl) ?_
            refine WR.val (G0 rfl) rfl rfl (.move rfl rfl) ?_
            refine WR.dw (G0 rfl) rfl rfl (.call0 (caps := []) rfl rfl rfl EN_126 (fun w hw => chainEF l A cap _ (hw.slf0 hS) hl d a r A' cap' (hw.slf0 hR) (by omega) hok ha0 hav (by omega) (by omega) (by omega))) ?_
            rintro _ _ ⟨_, ⟨v230, v231, rfl, rfl⟩, rfl⟩
            refine WR.val (G0 rfl) rfl rfl (.move rfl rfl) ?_
            refine WR.val (G0 rfl) rfl rfl (.extract (vs := [_, _]) rfl rfl rfl) ?_
            refine WR.val (G0 rfl) rfl rfl (.extract (vs := [_, _]) rfl rfl rfl) ?_
            refine WR.val (G0 rfl) rfl rfl (.assign rfl rfl) ?_
            refine WR.val (G0 rfl) rfl rfl (.assign rfl rfl) ?_
            refine WR.nil ?_
            refine WA.seq ?_
            refine WA.seq ?_
            rw [hcr]
            refine WA.region ?_
            refine WR.val (G0 rfl) rfl rfl (.move rfl rfl) ?_
            refine WR.val (G0 rfl) rfl rfl (.neq rfl rfl rfl) ?_
            refine WR.nil ?_
            refine WA.cond rfl (fun h233 => ?_) (fun h233 => ?_)
            · have f234 := h233
              try simp only [decide_eq_true_eq, decide_eq_false_iff_not, Bool.not_eq_true', Bool.not_eq_false', Int.not_lt, Int.not_le] at f234
              refine WA.seq ?_
              refine WA.region ?_
              refine WR.val (G0 rfl) rfl rfl (.move rfl rfl) ?_
              refine WR.val (G0 rfl) rfl rfl (.assign rfl rfl) ?_
              refine WR.val (G0 rfl) rfl rfl (.assign rfl rfl) ?_
              refine WR.nil ?_
              have hE : replaceR l d a n r = ([], 11) := by rw [hRR, if_pos (by assumption)]
              rw [hE]
              refine WA.nilrow 42 6 ?_
              exact WA.ret2 rfl rfl rfl (List.singleton_sublist.2 (List.mem_cons_self ..)) ⟨none, 0, rfl, rfl⟩
            · have f235 := h233
              try simp only [decide_eq_true_eq, decide_eq_false_iff_not, Bool.not_eq_true', Bool.not_eq_false', Int.not_lt, Int.not_le] at f235
              refine WA.skip ?_
              refine WA.seq ?_
              exfalso; simp_all
          · have hcr : chainR l d a r = ((chainF d (parR l a) (maxTime l + 1) r), 0) := if_neg h228
            obtain ⟨hz, hdv, hn5, hod, hex⟩ := replace_facts (d := d) ‹firstE _ = 0› (by simp_all <;> omega) (by simp_all <;> omega) (by simp_all <;> omega)
            obtain ⟨hwl, ha0, hn0, hav, hnv⟩ := spanR_zero hz
            have hok := well_store hwl
            have hd0 : 0 ≤ d.c := by simp only [dvalid, decide_eq_true_eq] at hdv; omega
            have hRR : replaceR l d a n r = if busy l d r = true then ([], 11) else (deltaF l (cutK l a n) (parR l a) d r, 0) := by unfold replaceR; rw [if_neg (by simp [hwl, hdv]), if_neg (by simp [hz]), if_neg hn5, if_neg hod, if_neg hex]
            refine WA.region ?_
            refine WR.val (G0 rfl) rfl rfl (.move rfl rfl) ?_
            refine WR.val (G0 rfl) rfl rfl (.loadK (vs := [_, _]) rfl AG_39 rfl (fun _ hw => hw.rd_blk (k := 2) 1 rfl rfl)) ?_
            refine WR.val (G0 rfl) rfl rfl (.move rfl rfl) ?_
            refine WR.val (G0 rfl) rfl rfl (.move rfl rfl) ?_
            refine WR.dw (G0 rfl) rfl rfl (.call0 (caps := []) rfl rfl rfl EN_126 (fun w hw => chainEF l A cap _ (hw.slf0 hS) hl d a r A' cap' (hw.slf0 hR) (by omega) hok ha0 hav (by omega) (by omega) (by omega))) ?_
            rintro _ _ ⟨_, ⟨v237, v238, rfl, rfl⟩, rfl⟩
            refine WR.val (G0 rfl) rfl rfl (.move rfl rfl) ?_
            refine WR.val (G0 rfl) rfl rfl (.extract (vs := [_, _]) rfl rfl rfl) ?_
            refine WR.val (G0 rfl) rfl rfl (.extract (vs := [_, _]) rfl rfl rfl) ?_
            refine WR.val (G0 rfl) rfl rfl (.assign rfl rfl) ?_
            refine WR.val (G0 rfl) rfl rfl (.assign rfl rfl) ?_
            refine WR.nil ?_
            refine WA.seq ?_
            refine WA.seq ?_
            rw [hcr]
            refine WA.region ?_
            refine WR.val (G0 rfl) rfl rfl (.move rfl rfl) ?_
            refine WR.val (G0 rfl) rfl rfl (.neq rfl rfl rfl) ?_
            refine WR.nil ?_
            refine WA.cond rfl (fun h240 => ?_) (fun h240 => ?_)
            · have f241 := h240
              try simp only [decide_eq_true_eq, decide_eq_false_iff_not, Bool.not_eq_true', Bool.not_eq_false', Int.not_lt, Int.not_le] at f241
              refine WA.seq ?_
              exfalso; simp_all
            · have f242 := h240
              try simp only [decide_eq_true_eq, decide_eq_false_iff_not, Bool.not_eq_true', Bool.not_eq_false', Int.not_lt, Int.not_le] at f242
              refine WA.skip ?_
              refine WA.seq ?_
              have hdr : deleteR l a n = ((goneF l (cutK l a n)), 0) := by unfold deleteR; rw [if_neg (by simp [hz]), if_neg (by omega)]
              have hgl := goneF_len l (cutK l a n)
              refine WA.region ?_
              refine WR.val (G0 rfl) rfl rfl (.move rfl rfl) ?_
              refine WR.val (G0 rfl) rfl rfl (.move rfl rfl) ?_
              refine WR.val (G0 rfl) rfl rfl (.move rfl rfl) ?_
              refine WR.dw (G0 rfl) rfl rfl (.call0 (caps := []) rfl rfl rfl EN_47 (fun w hw => deleteEF l A cap _ (hw.slf0 hS) hl a n)) ?_
              rintro _ _ ⟨_, ⟨v244, v245, rfl, rfl⟩, rfl⟩
              refine WR.val (G0 rfl) rfl rfl (.move rfl rfl) ?_
              refine WR.val (G0 rfl) rfl rfl (.extract (vs := [_, _]) rfl rfl rfl) ?_
              refine WR.val (G0 rfl) rfl rfl (.extract (vs := [_, _]) rfl rfl rfl) ?_
              refine WR.val (G0 rfl) rfl rfl (.assign rfl rfl) ?_
              refine WR.val (G0 rfl) rfl rfl (.assign rfl rfl) ?_
              refine WR.nil ?_
              refine WA.seq ?_
              refine WA.seq ?_
              rw [hdr]
              refine WA.region ?_
              refine WR.val (G0 rfl) rfl rfl (.move rfl rfl) ?_
              refine WR.val (G0 rfl) rfl rfl (.neq rfl rfl rfl) ?_
              refine WR.nil ?_
              refine WA.cond rfl (fun h247 => ?_) (fun h247 => ?_)
              · have f248 := h247
                try simp only [decide_eq_true_eq, decide_eq_false_iff_not, Bool.not_eq_true', Bool.not_eq_false', Int.not_lt, Int.not_le] at f248
                refine WA.seq ?_
                exfalso; simp_all
              · have f249 := h247
                try simp only [decide_eq_true_eq, decide_eq_false_iff_not, Bool.not_eq_true', Bool.not_eq_false', Int.not_lt, Int.not_le] at f249
                refine WA.skip ?_
                refine WA.seq ?_
                refine WA.rowcap 0 rfl (fun hcg => ?_)
                refine WA.rowcap 1 rfl (fun hcc => ?_)
                refine WA.region ?_
                refine WR.val (G0 rfl) rfl rfl (.move rfl rfl) ?_
                refine WR.val (G0 rfl) rfl rfl (.move rfl rfl) ?_
                refine WR.dw (G0 rfl) rfl rfl (.call0 (caps := []) rfl rfl rfl EN_32 (fun w hw => joinF (goneF l (cutK l a n)) (chainF d (parR l a) (maxTime l + 1) r) _ _ _ _ _ (hw.slf_row 0 rfl) (hw.slf_row 1 rfl) (by omega) (by rw [chainF_len]; omega) hcg.1 hcc.1)) ?_
                rintro _ _ ⟨_, ⟨v251, v252, rfl, rfl⟩, rfl⟩
                refine WR.val (G0 rfl) rfl rfl (.extract (vs := [_, _]) rfl rfl rfl) ?_
                refine WR.val (G0 rfl) rfl rfl (.extract (vs := [_, _]) rfl rfl rfl) ?_
                refine WR.val (G0 rfl) rfl rfl (.assign rfl rfl) ?_
                refine WR.val (G0 rfl) rfl rfl (.assign rfl rfl) ?_
                refine WR.nil ?_
                have hE : replaceR l d a n r = joinR (goneF l (cutK l a n)) (chainF d (parR l a) (maxTime l + 1) r) := by rw [hRR, if_neg (by assumption), (replace_ed hdv hz hod hex (by simp_all)).join]
                rw [hE]
                exact WA.ret2 rfl rfl rfl (.cons_cons _ (.cons _ (.cons _ (.cons _ (.cons _ .slnil))))) ⟨_, _, rfl, rfl⟩
      · have f253 := h220
        try simp only [decide_eq_true_eq, decide_eq_false_iff_not, Bool.not_eq_true', Bool.not_eq_false', Int.not_lt, Int.not_le] at f253
        refine WR.val (Gt rfl rfl rfl h220) rfl rfl (.move rfl rfl) ?_
        refine WR.dw (Gt rfl rfl rfl h220) rfl rfl (.callv (caps := []) rfl rfl rfl EN_51 (fun w hw => latestF _ _ _ _ (hw.slf0 hS) (by first | omega | (simp; omega)))) ?_
        rintro _ _ ⟨rfl, rfl⟩
        refine WR.val (Gt rfl rfl rfl h220) rfl rfl (.move rfl rfl) ?_
        refine WR.val (Gt rfl rfl rfl h220) rfl rfl (.len rfl ST_63.1 rfl) ?_
        refine WR.val (Gt rfl rfl rfl h220) rfl rfl (.sub rfl rfl rfl (by omega) (by omega)) ?_
        refine WR.val (Gt rfl rfl rfl h220) rfl rfl (.gtr rfl rfl rfl) ?_
        refine WR.val (G0 rfl) rfl rfl (.pick_f rfl rfl h220 rfl) ?_
        refine WR.dw (G0 rfl) rfl rfl (.callv (caps := []) rfl rfl rfl EN_117 (fun w hw => ewhenF _ _ w)) ?_
        rintro _ _ ⟨rfl, rfl⟩
        refine WR.dw (G0 rfl) rfl rfl (.buildSlice (k := 1) (e := 29) (vs := [_, _, _, _, _]) rfl rfl rfl (fun _ => by kernel_rfl) rfl) ?_
        rintro _ _ ⟨b256, rfl, rfl⟩
        refine WR.dw (G0 rfl) rfl rfl (.callv (caps := []) rfl rfl rfl EN_115 (fun w hw => efirstF [_, _, _, _, _] _ _ w (hw.slf_blk 0 rfl rfl (by simp [maxLen])) (by simp))) ?_
        rintro _ _ ⟨rfl, rfl⟩
        refine WR.val (G0 rfl) rfl rfl (.assign rfl rfl) ?_
        refine WR.nil ?_
        refine WA.seq ?_
        refine WA.seq ?_
        refine WA.region ?_
        refine WR.val (G0 rfl) rfl rfl (.move rfl rfl) ?_
        refine WR.val (G0 rfl) rfl rfl (.neq rfl rfl rfl) ?_
        refine WR.nil ?_
        refine WA.cond rfl (fun h258 => ?_) (fun h258 => ?_)
        · have f259 := h258
          try simp only [decide_eq_true_eq, decide_eq_false_iff_not, Bool.not_eq_true', Bool.not_eq_false', Int.not_lt, Int.not_le] at f259
          refine WA.seq ?_
          refine WA.region ?_
          refine WR.val (G0 rfl) rfl rfl (.move rfl rfl) ?_
          refine WR.val (G0 rfl) rfl rfl (.assign rfl rfl) ?_
          refine WR.val (G0 rfl) rfl rfl (.assign rfl rfl) ?_
          refine WR.nil ?_
          have hE := replace_err (d := d) ‹¬ firstE _ = 0› (by simp_all <;> omega) (by simp_all <;> omega) (by simp_all <;> omega)
          rw [hE]
          refine WA.nilrow 42 6 ?_
          exact WA.ret2 rfl rfl rfl (List.singleton_sublist.2 (List.mem_cons_self ..)) ⟨none, 0, rfl, rfl⟩
        · have f260 := h258
          try simp only [decide_eq_true_eq, decide_eq_false_iff_not, Bool.not_eq_true', Bool.not_eq_false', Int.not_lt, Int.not_le] at f260
          refine WA.skip ?_
          refine WA.seq ?_
          by_cases h261 : busy l d r = true
          · have hcr : chainR l d a r = ([], 11) := if_pos h261
            obtain ⟨hz, hdv, hn5, hod, hex⟩ := replace_facts (d := d) ‹firstE _ = 0› (by simp_all <;> omega) (by simp_all <;> omega) (by simp_all <;> omega)
            obtain ⟨hwl, ha0, hn0, hav, hnv⟩ := spanR_zero hz
            have hok := well_store hwl
            have hd0 : 0 ≤ d.c := by simp only [dvalid, decide_eq_true_eq] at hdv; omega
            have hRR : replaceR l d a n r = if busy l d r = true then ([], 11) else (deltaF l (cutK l a n) (parR l a) d r, 0) := by unfold replaceR; rw [if_neg (by simp [hwl, hdv]), if_neg (by simp [hz]), if_neg hn5, if_neg hod, if_neg hex]
            refine WA.region ?_
            refine WR.val (G0 rfl) rfl rfl (.move rfl rfl) ?_
            refine WR.val (G0 rfl) rfl rfl (.loadK (vs := [_, _]) rfl AG_39 rfl (fun _ hw => hw.rd_blk (k := 2) 1 rfl rfl)) ?_
            refine WR.val (G0 rfl) rfl rfl (.move rfl rfl) ?_
            refine WR.val (G0 rfl) rfl rfl (.move rfl rfl) ?_
            refine WR.dw (G0 rfl) rfl rfl (.call0 (caps := []) rfl rfl rfl EN_126 (fun w hw => chainEF l A cap _ (hw.slf0 hS) hl d a r A' cap' (hw.slf0 hR) (by omega) hok ha0 hav (by omega) (by omega) (by omega))) ?_
            rintro _ _ ⟨_, ⟨v263, v264, rfl, rfl⟩, rfl⟩
            refine WR.val (G0 rfl) rfl rfl (.move rfl rfl) ?_
            refine WR.val (G0 rfl) rfl rfl (.extract (vs := [_, _]) rfl rfl rfl) ?_
            refine WR.val (G0 rfl) rfl rfl (.extract (vs := [_, _]) rfl rfl rfl) ?_
            refine WR.val (G0 rfl) rfl rfl (.assign rfl rfl) ?_
            refine WR.val (G0 rfl) rfl rfl (.assign rfl rfl) ?_
            refine WR.nil ?_
            refine WA.seq ?_
            refine WA.seq ?_
            rw [hcr]
            refine WA.region ?_
            refine WR.val (G0 rfl) rfl rfl (.move rfl rfl) ?_
            refine WR.val (G0 rfl) rfl rfl (.neq rfl rfl rfl) ?_
            refine WR.nil ?_
            refine WA.cond rfl (fun h266 => ?_) (fun h266 => ?_)
            · have f267 := h266
              try simp only [decide_eq_true_eq, decide_eq_false_iff_not, Bool.not_eq_true', Bool.not_eq_false', Int.not_lt, Int.not_le] at f267
              refine WA.seq ?_
              refine WA.region ?_
              refine WR.val (G0 rfl) rfl rfl (.move rfl rfl) ?_
              refine WR.val (G0 rfl) rfl rfl (.assign rfl rfl) ?_
              refine WR.val (G0 rfl) rfl rfl (.assign rfl rfl) ?_
              refine WR.nil ?_
              have hE : replaceR l d a n r = ([], 11) := by rw [hRR, if_pos (by assumption)]
              rw [hE]
              refine WA.nilrow 42 6 ?_
              exact WA.ret2 rfl rfl rfl (List.singleton_sublist.2 (List.mem_cons_self ..)) ⟨none, 0, rfl, rfl⟩
            · have f268 := h266
              try simp only [decide_eq_true_eq, decide_eq_false_iff_not, Bool.not_eq_true', Bool.not_eq_false', Int.not_lt, Int.not_le] at f268
              refine WA.skip ?_
              refine WA.seq ?_
              exfalso; simp_all
          · have hcr : chainR l d a r = ((chainF d (parR l a) (maxTime l + 1) r), 0) := if_neg h261
            obtain ⟨hz, hdv, hn5, hod, hex⟩ := replace_facts (d := d) ‹firstE _ = 0› (by simp_all <;> omega) (by simp_all <;> omega) (by simp_all <;> omega)
            obtain ⟨hwl, ha0, hn0, hav, hnv⟩ := spanR_zero hz
            have hok := well_store hwl
            have hd0 : 0 ≤ d.c := by simp only [dvalid, decide_eq_true_eq] at hdv; omega
            have hRR : replaceR l d a n r = if busy l d r = true then ([], 11) else (deltaF l (cutK l a n) (parR l a) d r, 0) := by unfold replaceR; rw [if_neg (by simp [hwl, hdv]), if_neg (by simp [hz]), if_neg hn5, if_neg hod, if_neg hex]
            refine WA.region ?_
            refine WR.val (G0 rfl) rfl rfl (.move rfl rfl) ?_
            refine WR.val (G0 rfl) rfl rfl (.loadK (vs := [_, _]) rfl AG_39 rfl (fun _ hw => hw.rd_blk (k := 2) 1 rfl rfl)) ?_
            refine WR.val (G0 rfl) rfl rfl (.move rfl rfl) ?_
            refine WR.val (G0 rfl) rfl rfl (.move rfl rfl) ?_
            refine WR.dw (G0 rfl) rfl rfl (.call0 (caps := []) rfl rfl rfl EN_126 (fun w hw => chainEF l A cap _ (hw.slf0 hS) hl d a r A' cap' (hw.slf0 hR) (by omega) hok ha0 hav (by omega) (by omega) (by omega))) ?_
            rintro _ _ ⟨_, ⟨v270, v271, rfl, rfl⟩, rfl⟩
            refine WR.val (G0 rfl) rfl rfl (.move rfl rfl) ?_
            refine WR.val (G0 rfl) rfl rfl (.extract (vs := [_, _]) rfl rfl rfl) ?_
            refine WR.val (G0 rfl) rfl rfl (.extract (vs := [_, _]) rfl rfl rfl) ?_
            refine WR.val (G0 rfl) rfl rfl (.assign rfl rfl) ?_
            refine WR.val (G0 rfl) rfl rfl (.assign rfl rfl) ?_
            refine WR.nil ?_
            refine WA.seq ?_
            refine WA.seq ?_
            rw [hcr]
            refine WA.region ?_
            refine WR.val (G0 rfl) rfl rfl (.move rfl rfl) ?_
            refine WR.val (G0 rfl) rfl rfl (.neq rfl rfl rfl) ?_
            refine WR.nil ?_
            refine WA.cond rfl (fun h273 => ?_) (fun h273 => ?_)
            · have f274 := h273
              try simp only [decide_eq_true_eq, decide_eq_false_iff_not, Bool.not_eq_true', Bool.not_eq_false', Int.not_lt, Int.not_le] at f274
              refine WA.seq ?_
              exfalso; simp_all
            · have f275 := h273
              try simp only [decide_eq_true_eq, decide_eq_false_iff_not, Bool.not_eq_true', Bool.not_eq_false', Int.not_lt, Int.not_le] at f275
              refine WA.skip ?_
              refine WA.seq ?_
              have hdr : deleteR l a n = ((goneF l (cutK l a n)), 0) := by unfold deleteR; rw [if_neg (by simp [hz]), if_neg (by omega)]
              have hgl := goneF_len l (cutK l a n)
              refine WA.region ?_
              refine WR.val (G0 rfl) rfl rfl (.move rfl rfl) ?_
              refine WR.val (G0 rfl) rfl rfl (.move rfl rfl) ?_
              refine WR.val (G0 rfl) rfl rfl (.move rfl rfl) ?_
              refine WR.dw (G0 rfl) rfl rfl (.call0 (caps := []) rfl rfl rfl EN_47 (fun w hw => deleteEF l A cap _ (hw.slf0 hS) hl a n)) ?_
              rintro _ _ ⟨_, ⟨v277, v278, rfl, rfl⟩, rfl⟩
              refine WR.val (G0 rfl) rfl rfl (.move rfl rfl) ?_
              refine WR.val (G0 rfl) rfl rfl (.extract (vs := [_, _]) rfl rfl rfl) ?_
              refine WR.val (G0 rfl) rfl rfl (.extract (vs := [_, _]) rfl rfl rfl) ?_
              refine WR.val (G0 rfl) rfl rfl (.assign rfl rfl) ?_
              refine WR.val (G0 rfl) rfl rfl (.assign rfl rfl) ?_
              refine WR.nil ?_
              refine WA.seq ?_
              refine WA.seq ?_
              rw [hdr]
              refine WA.region ?_
              refine WR.val (G0 rfl) rfl rfl (.move rfl rfl) ?_
              refine WR.val (G0 rfl) rfl rfl (.neq rfl rfl rfl) ?_
              refine WR.nil ?_
              refine WA.cond rfl (fun h280 => ?_) (fun h280 => ?_)
              · have f281 := h280
                try simp only [decide_eq_true_eq, decide_eq_false_iff_not, Bool.not_eq_true', Bool.not_eq_false', Int.not_lt, Int.not_le] at f281
                refine WA.seq ?_
                exfalso; simp_all
              · have f282 := h280
                try simp only [decide_eq_true_eq, decide_eq_false_iff_not, Bool.not_eq_true', Bool.not_eq_false', Int.not_lt, Int.not_le] at f282
                refine WA.skip ?_
                refine WA.seq ?_
                refine WA.rowcap 0 rfl (fun hcg => ?_)
                refine WA.rowcap 1 rfl (fun hcc => ?_)
                refine WA.region ?_
                refine WR.val (G0 rfl) rfl rfl (.move rfl rfl) ?_
                refine WR.val (G0 rfl) rfl rfl (.move rfl rfl) ?_
                refine WR.dw (G0 rfl) rfl rfl (.call0 (caps := []) rfl rfl rfl EN_32 (fun w hw => joinF (goneF l (cutK l a n)) (chainF d (parR l a) (maxTime l + 1) r) _ _ _ _ _ (hw.slf_row 0 rfl) (hw.slf_row 1 rfl) (by omega) (by rw [chainF_len]; omega) hcg.1 hcc.1)) ?_
                rintro _ _ ⟨_, ⟨v284, v285, rfl, rfl⟩, rfl⟩
                refine WR.val (G0 rfl) rfl rfl (.extract (vs := [_, _]) rfl rfl rfl) ?_
                refine WR.val (G0 rfl) rfl rfl (.extract (vs := [_, _]) rfl rfl rfl) ?_
                refine WR.val (G0 rfl) rfl rfl (.assign rfl rfl) ?_
                refine WR.val (G0 rfl) rfl rfl (.assign rfl rfl) ?_
                refine WR.nil ?_
                have hE : replaceR l d a n r = joinR (goneF l (cutK l a n)) (chainF d (parR l a) (maxTime l + 1) r) := by rw [hRR, if_neg (by assumption), (replace_ed hdv hz hod hex (by simp_all)).join]
                rw [hE]
                exact WA.ret2 rfl rfl rfl (.cons_cons _ (.cons _ (.cons _ (.cons _ (.cons _ .slnil))))) ⟨_, _, rfl, rfl⟩
set_option maxRecDepth 20000 in
/-- redpencil/edit.Insert -/
theorem insertEF (l : List Nd) (A : Option Addr) (cap : Nat) (w : World) (hS : SlN w A l) (hl : l.length ≤ 400000) (d : Dot) (a : Int) (r : List Int) (A' : Option Addr) (cap' : Nat) (hR : SlR w A' r) (hr : r.length ≤ 400000) : Ct Tryz.prog 42 #[.slice A l.length cap, dv d, .int .i64 a, .slice A' r.length cap'] [] w (fun u hs => ∃ B c, u = .tuple #[.slice B (replaceR l d a 0 r).1.length c, .int .i64 (replaceR l d a 0 r).2] ∧ hs = [En.row B (replaceR l d a 0 r).1.length c 42 6 ((replaceR l d a 0 r).1.flatMap nc)]) := by
  refine Ct.intro Tryz.func42 rfl Tryz.ntmps42 rfl ?_
  refine WA.seq ?_
  refine WA.region ?_
  refine WR.dw (G0 rfl) rfl rfl (.box (vs := [_, _]) rfl rfl rfl) ?_
  rintro _ _ ⟨b2, rfl, rfl⟩
  refine WR.val (G0 rfl) rfl rfl (.assign rfl rfl) ?_
  refine WR.val (G0 rfl) rfl rfl (.assign rfl rfl) ?_
  refine WR.nil ?_
  refine WA.seq ?_
  refine WA.region ?_
  refine WR.val (G0 rfl) rfl rfl (.move rfl rfl) ?_
  refine WR.val (G0 rfl) rfl rfl (.loadK (vs := [_, _]) rfl AG_39 rfl (fun _ hw => hw.rd_blk (k := 2) 0 rfl rfl)) ?_
  refine WR.val (G0 rfl) rfl rfl (.move rfl rfl) ?_
  refine WR.val (G0 rfl) rfl rfl (.move rfl rfl) ?_
  refine WR.dw (G0 rfl) rfl rfl (.call0 (caps := []) rfl rfl rfl EN_50 (fun w hw => replaceEF _ _ _ _ (hw.slf0 hS) (by first | omega | (simp; omega)) _ _ _ _ _ _ (hw.slf0 hR) (by first | omega | (simp; omega)))) ?_
  rintro _ _ ⟨_, ⟨v4, v5, rfl, rfl⟩, rfl⟩
  refine WR.val (G0 rfl) rfl rfl (.extract (vs := [_, _]) rfl rfl rfl) ?_
  refine WR.val (G0 rfl) rfl rfl (.extract (vs := [_, _]) rfl rfl rfl) ?_
  refine WR.val (G0 rfl) rfl rfl (.assign rfl rfl) ?_
  refine WR.val (G0 rfl) rfl rfl (.assign rfl rfl) ?_
  refine WR.nil ?_
  exact WA.ret2 rfl rfl rfl (.cons_cons _ (.cons _ .slnil)) ⟨_, _, rfl, rfl⟩
set_option maxRecDepth 20000 in
/-- redpencil/edit.Apply -/
theorem applyEF (l : List Nd) (A : Option Addr) (cap : Nat) (w : World) (hS : SlN w A l) (hl : l.length ≤ 400000) (m : List Nd) (A' : Option Addr) (cap' : Nat) (hM : SlN w A' m) (hm : m.length ≤ 400000) (hc : l.length ≤ cap) (hc' : m.length ≤ cap') : Ct Tryz.prog 53 #[.slice A l.length cap, .slice A' m.length cap'] [] w (fun u hs => ∃ B c B' c', u = .tuple #[.slice B (applyR l m).1.length c, .slice B' (applyR l m).2.1.length c', .int .i64 (applyR l m).2.2] ∧ hs = [En.row B (applyR l m).1.length c 42 6 ((applyR l m).1.flatMap nc), En.row B' (applyR l m).2.1.length c' 21 1 ((applyR l m).2.1.flatMap rc)]) := by
  refine Ct.intro Tryz.func53 rfl Tryz.ntmps53 rfl ?_
  refine WA.seq ?_
  refine WA.region ?_
  refine WR.val (G0 rfl) rfl rfl (.assign rfl rfl) ?_
  refine WR.val (G0 rfl) rfl rfl (.assign rfl rfl) ?_
  refine WR.val (G0 rfl) rfl rfl (.assign rfl rfl) ?_
  refine WR.nil ?_
  refine WA.seq ?_
  have hjl := joinR_len l m
  refine WA.region ?_
  refine WR.val (G0 rfl) rfl rfl (.move rfl rfl) ?_
  refine WR.val (G0 rfl) rfl rfl (.move rfl rfl) ?_
  refine WR.dw (G0 rfl) rfl rfl (.call0 (caps := []) rfl rfl rfl EN_32 (fun w hw => joinF l m A A' cap cap' _ (hw.slf0 hS) (hw.slf0 hM) hl hm hc hc')) ?_
  rintro _ _ ⟨_, ⟨v2, v3, rfl, rfl⟩, rfl⟩
  refine WR.val (G0 rfl) rfl rfl (.move rfl rfl) ?_
  refine WR.val (G0 rfl) rfl rfl (.extract (vs := [_, _]) rfl rfl rfl) ?_
  refine WR.val (G0 rfl) rfl rfl (.extract (vs := [_, _]) rfl rfl rfl) ?_
  refine WR.val (G0 rfl) rfl rfl (.assign rfl rfl) ?_
  refine WR.val (G0 rfl) rfl rfl (.assign rfl rfl) ?_
  refine WR.nil ?_
  refine WA.seq ?_
  refine WA.seq ?_
  refine WA.region ?_
  refine WR.val (G0 rfl) rfl rfl (.move rfl rfl) ?_
  refine WR.val (G0 rfl) rfl rfl (.neq rfl rfl rfl) ?_
  refine WR.nil ?_
  refine WA.cond rfl (fun h5 => ?_) (fun h5 => ?_)
  · have f6 := h5
    try simp only [decide_eq_true_eq, decide_eq_false_iff_not, Bool.not_eq_true', Bool.not_eq_false', Int.not_lt, Int.not_le] at f6
    refine WA.seq ?_
    refine WA.region ?_
    refine WR.val (G0 rfl) rfl rfl (.move rfl rfl) ?_
    refine WR.val (G0 rfl) rfl rfl (.assign rfl rfl) ?_
    refine WR.val (G0 rfl) rfl rfl (.assign rfl rfl) ?_
    refine WR.val (G0 rfl) rfl rfl (.assign rfl rfl) ?_
    refine WR.nil ?_
    have hE : applyR l m = ([], [], (joinR l m).2) := if_pos (by simp_all)
    rw [hE]
    refine WA.nilrow 21 1 ?_
    refine WA.nilrow 42 6 ?_
    exact WA.ret3 rfl rfl rfl rfl (.cons_cons _ (.cons_cons _ (List.nil_sublist _))) ⟨none, 0, none, 0, rfl, rfl⟩
  · have f7 := h5
    try simp only [decide_eq_true_eq, decide_eq_false_iff_not, Bool.not_eq_true', Bool.not_eq_false', Int.not_lt, Int.not_le] at f7
    refine WA.skip ?_
    refine WA.seq ?_
    have hj0 : (joinR l m).2 = 0 := by simp_all
    have hjo := joinR_ok hj0
    refine WA.region ?_
    refine WR.val (G0 rfl) rfl rfl (.move rfl rfl) ?_
    refine WR.dw (G0 rfl) rfl rfl (.call0 (caps := []) rfl rfl rfl EN_101 (fun w hw => runesF (joinR l m).1 _ _ _ (hw.slf_row 0 rfl) (by omega))) ?_
    rintro _ _ ⟨_, ⟨v9, v10, rfl, rfl⟩, rfl⟩
    refine WR.val (G0 rfl) rfl rfl (.move rfl rfl) ?_
    refine WR.val (G0 rfl) rfl rfl (.extract (vs := [_, _]) rfl rfl rfl) ?_
    refine WR.val (G0 rfl) rfl rfl (.extract (vs := [_, _]) rfl rfl rfl) ?_
    refine WR.val (G0 rfl) rfl rfl (.assign rfl rfl) ?_
    refine WR.val (G0 rfl) rfl rfl (.assign rfl rfl) ?_
    refine WR.nil ?_
    refine WA.seq ?_
    refine WA.seq ?_
    have hrr : runesR (joinR l m).1 = (runesOf (joinR l m).1, 0) := if_pos hjo
    rw [hrr]
    refine WA.region ?_
    refine WR.val (G0 rfl) rfl rfl (.move rfl rfl) ?_
    refine WR.val (G0 rfl) rfl rfl (.neq rfl rfl rfl) ?_
    refine WR.nil ?_
    refine WA.cond rfl (fun h12 => ?_) (fun h12 => ?_)
    · have f13 := h12
      try simp only [decide_eq_true_eq, decide_eq_false_iff_not, Bool.not_eq_true', Bool.not_eq_false', Int.not_lt, Int.not_le] at f13
      refine WA.seq ?_
      exfalso; simp_all
    · have f14 := h12
      try simp only [decide_eq_true_eq, decide_eq_false_iff_not, Bool.not_eq_true', Bool.not_eq_false', Int.not_lt, Int.not_le] at f14
      refine WA.skip ?_
      refine WA.seq ?_
      refine WA.region ?_
      refine WR.val (G0 rfl) rfl rfl (.move rfl rfl) ?_
      refine WR.val (G0 rfl) rfl rfl (.move rfl rfl) ?_
      refine WR.val (G0 rfl) rfl rfl (.assign rfl rfl) ?_
      refine WR.val (G0 rfl) rfl rfl (.assign rfl rfl) ?_
      refine WR.val (G0 rfl) rfl rfl (.assign rfl rfl) ?_
      refine WR.nil ?_
      have hE : applyR l m = ((joinR l m).1, runesOf (joinR l m).1, 0) := if_neg (by simp_all)
      rw [hE]
      refine WA.front 1 rfl ?_
      exact WA.ret3 rfl rfl rfl rfl (.refl _) ⟨_, _, _, _, rfl, rfl⟩
end Go.Proofs.YtpbillinpjccdaaGreat.Fm
