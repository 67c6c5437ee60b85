/- Contracts: slices. -/
import Derived.Test.YtpbillinpjccdaaGreatFbQ
import Derived.Test.YtpbillinpjccdaaGreatRbQ
namespace Go.Proofs.YtpbillinpjccdaaGreat.Fc
open Go.RowKit Go.J Go.R Go.Proofs.YtpbillinpjccdaaGreat.Fa Go.Proofs.YtpbillinpjccdaaGreat.Fb
set_option linter.unusedVariables false
set_option linter.unusedSimpArgs false
theorem follows : Tryz.prog.follows .mixedOrders = true := by kernel_rfl
theorem AG_39 : AG Tryz.prog 39 2 := ⟨Tryz.isAgg39, Tryz.sizeOf39⟩
theorem AG_42 : AG Tryz.prog 42 6 := ⟨Tryz.isAgg42, Tryz.sizeOf42⟩
theorem EN_181 : Enters Tryz.prog 181 := enters_of Tryz.func181 (by kernel_rfl) rfl
theorem EN_186 : Enters Tryz.prog 186 := enters_of Tryz.func186 (by kernel_rfl) rfl
theorem EN_228 : Enters Tryz.prog 228 := enters_of Tryz.func228 (by kernel_rfl) rfl
theorem NA_21 : NA Tryz.prog 21 := ⟨Tryz.isAgg21, Tryz.sizeOf21⟩
theorem ST_22 : ST Tryz.prog 22 42 6 := ⟨Tryz.underlying22, Tryz.sizeOf42⟩
theorem ST_23 : ST Tryz.prog 23 42 6 := ⟨Tryz.underlying23, Tryz.sizeOf42⟩
theorem ST_25 : ST Tryz.prog 25 39 2 := ⟨Tryz.underlying25, Tryz.sizeOf39⟩
theorem ST_63 : ST Tryz.prog 63 21 1 := ⟨Tryz.underlying63, Tryz.sizeOf21⟩
theorem ZT_39 : ZT Tryz.prog 39 (.agg #[.int .i64 0, .int .i64 0]) 2 16 := by unfold ZT; kernel_rfl
theorem ZT_42 : ZT Tryz.prog 42 (.agg #[.int .i64 0, .int .i64 0, .int .i64 0, .int .i64 0, .int .i64 0, .int .i32 0]) 6 48 := by unfold ZT; kernel_rfl
set_option maxRecDepth 20000 in
/-- slices.IndexFunc[[]redpencil/api.Node,redpencil/api.Node] -/
theorem idxFN (l : List Nd) (A : Option Addr) (cap : Nat) (g : FuncId) (caps : List Value) (p : Nd → Bool) (w : World) (hS : SlN w A l) (hl : l.length ≤ 1000000) (hg : Proofs.Enters Tryz.prog g) (hp : ∀ x ∈ l, ∀ W, Below w.heap.size w W → Ct Tryz.prog g (nv x :: caps).toArray [] W (fun u hs => u = .bool (p x) ∧ hs = [])) : Ct Tryz.prog 186 #[.slice A l.length cap, .func (.func g) #[] caps.toArray] [] w (fun u hs => u = .int .i64 (idx p l) ∧ hs = []) := by
  refine Ct.intro Tryz.func186 rfl Tryz.ntmps186 rfl ?_
  refine WA.seq ?_
  refine WA.region ?_
  refine WR.val (G0 rfl) rfl rfl (.assign rfl rfl) ?_
  refine WR.nil ?_
  refine WA.seq ?_
  refine WA.seq ?_
  refine WA.region ?_
  refine WR.val (G0 rfl) rfl rfl (.move rfl rfl) ?_
  refine WR.val (G0 rfl) rfl rfl (.len rfl ST_22.1 rfl) ?_
  refine WR.val (G0 rfl) rfl rfl (.move rfl rfl) ?_
  refine WR.nil ?_
  refine WA.block ?_
  refine WA.loopK (γ := Nat) [(0, _), (1, _), (7, _)] [] (fun k => [(8, .int .i64 (k : Int))]) (fun k => []) (fun k => k ≤ l.length ∧ ∀ j : Nat, j < k → p (gx l (j : Int)) = false) (fun k => l.length - k) 0 (.cons rfl (.cons rfl (.cons rfl (.nil _)))) (.cons rfl (.nil _)) .slnil ⟨by omega, fun _ _ => by omega⟩ ?_
  intro k hk
  obtain ⟨hk, hd⟩ := hk
  refine WA.seq ?_
  refine WA.region ?_
  refine WR.val (G0 rfl) rfl rfl (.lss rfl rfl rfl) ?_
  refine WR.nil ?_
  refine WA.seq ?_
  refine WA.cond rfl (fun h2 => ?_) (fun h2 => ?_)
  · have f3 := h2
    try simp only [decide_eq_true_eq, decide_eq_false_iff_not, Bool.not_eq_true', Bool.not_eq_false', Int.not_lt, Int.not_le] at f3
    refine WA.skip ?_
    refine WA.seq ?_
    refine WA.block ?_
    refine WA.seq ?_
    refine WA.region ?_
    refine WR.val (G0 rfl) rfl rfl (.move rfl rfl) ?_
    refine WR.val (G0 rfl) rfl rfl (.assign rfl rfl) ?_
    refine WR.nil ?_
    refine WA.seq ?_
    refine WA.region ?_
    refine WR.val (G0 rfl) rfl rfl (.move rfl rfl) ?_
    refine WR.val (G0 rfl) rfl rfl (.move rfl rfl) ?_
    refine WR.val (G0 rfl) rfl rfl (.move rfl rfl) ?_
    refine WR.val (G0 rfl) rfl rfl (.ix rfl ST_22 rfl rfl (by omega) (by omega) (fun _ hw hn => (hw.slf0 hS).some_ hn)) ?_
    refine WR.val (G0 rfl) rfl rfl (.loadK (vs := [_, _, _, _, _, _]) rfl AG_42 rfl (fun _ hw => rdN (hw.slf0 hS) (by omega) (by omega))) ?_
    refine WR.dw (G0 rfl) rfl rfl (.callv (caps := caps) rfl rfl rfl hg (fun w hw => hp _ (gx_mem (by omega) (by omega)) _ hw.below)) ?_
    rintro _ _ ⟨rfl, rfl⟩
    refine WR.nil ?_
    refine WA.cond rfl (fun h5 => ?_) (fun h5 => ?_)
    · have f6 := h5
      try simp only [decide_eq_true_eq, decide_eq_false_iff_not, Bool.not_eq_true', Bool.not_eq_false', Int.not_lt, Int.not_le] at f6
      refine WA.seq ?_
      refine WA.region ?_
      refine WR.val (G0 rfl) rfl rfl (.move rfl rfl) ?_
      refine WR.val (G0 rfl) rfl rfl (.assign rfl rfl) ?_
      refine WR.nil ?_
      exact WA.ret1 rfl rfl (List.nil_sublist _) ⟨by rw [idx_take p l k (by omega) hd (by assumption)], rfl⟩
    · have f7 := h5
      try simp only [decide_eq_true_eq, decide_eq_false_iff_not, Bool.not_eq_true', Bool.not_eq_false', Int.not_lt, Int.not_le] at f7
      refine WA.skip ?_
      refine WA.mark ?_
      refine WA.region ?_
      refine WR.val (G0 rfl) rfl rfl (.add rfl rfl rfl (by omega) (by omega)) ?_
      refine WR.val (G0 rfl) rfl rfl (.move rfl rfl) ?_
      refine WR.nil ?_
      exact WA.roundK (k + 1) (.cons rfl (.cons rfl (.cons rfl (.nil _)))) (.cons rfl (.nil _)) .slnil ⟨by omega, lt_snoc hd (by assumption)⟩ (by omega)
  · have f8 := h2
    try simp only [decide_eq_true_eq, decide_eq_false_iff_not, Bool.not_eq_true', Bool.not_eq_false', Int.not_lt, Int.not_le] at f8
    refine WA.exit rfl ?_
    refine WA.seq ?_
    refine WA.region ?_
    refine WR.val (G0 rfl) rfl rfl (.assign rfl rfl) ?_
    refine WR.nil ?_
    exact WA.ret1 rfl rfl (List.nil_sublist _) ⟨by rw [idx_none p l (fun j hj => hd j (by omega))], rfl⟩
set_option maxRecDepth 20000 in
/-- slices.ContainsFunc[[]redpencil/api.Node,redpencil/api.Node] -/
theorem conFN (l : List Nd) (A : Option Addr) (cap : Nat) (g : FuncId) (caps : List Value) (p : Nd → Bool) (w : World) (hS : SlN w A l) (hl : l.length ≤ 1000000) (hg : Proofs.Enters Tryz.prog g) (hp : ∀ x ∈ l, ∀ W, Below w.heap.size w W → Ct Tryz.prog g (nv x :: caps).toArray [] W (fun u hs => u = .bool (p x) ∧ hs = [])) : Ct Tryz.prog 133 #[.slice A l.length cap, .func (.func g) #[] caps.toArray] [] w (fun u hs => u = .bool (l.any p) ∧ hs = []) := by
  refine Ct.intro Tryz.func133 rfl Tryz.ntmps133 rfl ?_
  refine WA.seq ?_
  refine WA.region ?_
  refine WR.val (G0 rfl) rfl rfl (.assign rfl rfl) ?_
  refine WR.nil ?_
  refine WA.seq ?_
  refine WA.region ?_
  refine WR.val (G0 rfl) rfl rfl (.move rfl rfl) ?_
  refine WR.val (G0 rfl) rfl rfl (.move rfl rfl) ?_
  refine WR.dw (G0 rfl) rfl rfl (.callv (caps := []) rfl rfl rfl EN_186 (fun w hw => idxFN l A cap g caps p _ (hw.slf0 hS) hl hg (fun x hx W hW => hp x hx W (hw.below.trans (hW.mono hw.below.size))))) ?_
  rintro _ _ ⟨rfl, rfl⟩
  refine WR.val (G0 rfl) rfl rfl (.geq rfl rfl rfl) ?_
  refine WR.val (G0 rfl) rfl rfl (.assign rfl rfl) ?_
  refine WR.nil ?_
  exact WA.ret1 rfl rfl (List.nil_sublist _) ⟨by congr 1; rw [Bool.eq_iff_iff, ← idx_any, decide_eq_true_eq], rfl⟩
set_option maxRecDepth 20000 in
/-- slices.IndexFunc[[]redpencil/api.Dot,redpencil/api.Dot] -/
theorem idxFD (l : List Dot) (A : Option Addr) (cap : Nat) (g : FuncId) (caps : List Value) (p : Dot → Bool) (w : World) (hS : SlD w A l) (hl : l.length ≤ 1000000) (hg : Proofs.Enters Tryz.prog g) (hp : ∀ x ∈ l, ∀ W, Below w.heap.size w W → Ct Tryz.prog g (dv x :: caps).toArray [] W (fun u hs => u = .bool (p x) ∧ hs = [])) : Ct Tryz.prog 228 #[.slice A l.length cap, .func (.func g) #[] caps.toArray] [] w (fun u hs => u = .int .i64 (idx p l) ∧ hs = []) := by
  refine Ct.intro Tryz.func228 rfl Tryz.ntmps228 rfl ?_
  refine WA.seq ?_
  refine WA.region ?_
  refine WR.val (G0 rfl) rfl rfl (.assign rfl rfl) ?_
  refine WR.nil ?_
  refine WA.seq ?_
  refine WA.seq ?_
  refine WA.region ?_
  refine WR.val (G0 rfl) rfl rfl (.move rfl rfl) ?_
  refine WR.val (G0 rfl) rfl rfl (.len rfl ST_25.1 rfl) ?_
  refine WR.val (G0 rfl) rfl rfl (.move rfl rfl) ?_
  refine WR.nil ?_
  refine WA.block ?_
  refine WA.loopK (γ := Nat) [(0, _), (1, _), (7, _)] [] (fun k => [(8, .int .i64 (k : Int))]) (fun k => []) (fun k => k ≤ l.length ∧ ∀ j : Nat, j < k → p (gx l (j : Int)) = false) (fun k => l.length - k) 0 (.cons rfl (.cons rfl (.cons rfl (.nil _)))) (.cons rfl (.nil _)) .slnil ⟨by omega, fun _ _ => by omega⟩ ?_
  intro k hk
  obtain ⟨hk, hd⟩ := hk
  refine WA.seq ?_
  refine WA.region ?_
  refine WR.val (G0 rfl) rfl rfl (.lss rfl rfl rfl) ?_
  refine WR.nil ?_
  refine WA.seq ?_
  refine WA.cond rfl (fun h2 => ?_) (fun h2 => ?_)
  · have f3 := h2
    try simp only [decide_eq_true_eq, decide_eq_false_iff_not, Bool.not_eq_true', Bool.not_eq_false', Int.not_lt, Int.not_le] at f3
    refine WA.skip ?_
    refine WA.seq ?_
    refine WA.block ?_
    refine WA.seq ?_
    refine WA.region ?_
    refine WR.val (G0 rfl) rfl rfl (.move rfl rfl) ?_
    refine WR.val (G0 rfl) rfl rfl (.assign rfl rfl) ?_
    refine WR.nil ?_
    refine WA.seq ?_
    refine WA.region ?_
    refine WR.val (G0 rfl) rfl rfl (.move rfl rfl) ?_
    refine WR.val (G0 rfl) rfl rfl (.move rfl rfl) ?_
    refine WR.val (G0 rfl) rfl rfl (.move rfl rfl) ?_
    refine WR.val (G0 rfl) rfl rfl (.ix rfl ST_25 rfl rfl (by omega) (by omega) (fun _ hw hn => (hw.slf0 hS).some_ hn)) ?_
    refine WR.val (G0 rfl) rfl rfl (.loadK (vs := [_, _]) rfl AG_39 rfl (fun _ hw => rdD (hw.slf0 hS) (by omega) (by omega))) ?_
    refine WR.dw (G0 rfl) rfl rfl (.callv (caps := caps) rfl rfl rfl hg (fun w hw => hp _ (gx_mem (by omega) (by omega)) _ hw.below)) ?_
    rintro _ _ ⟨rfl, rfl⟩
    refine WR.nil ?_
    refine WA.cond rfl (fun h5 => ?_) (fun h5 => ?_)
    · have f6 := h5
      try simp only [decide_eq_true_eq, decide_eq_false_iff_not, Bool.not_eq_true', Bool.not_eq_false', Int.not_lt, Int.not_le] at f6
      refine WA.seq ?_
      refine WA.region ?_
      refine WR.val (G0 rfl) rfl rfl (.move rfl rfl) ?_
      refine WR.val (G0 rfl) rfl rfl (.assign rfl rfl) ?_
      refine WR.nil ?_
      exact WA.ret1 rfl rfl (List.nil_sublist _) ⟨by rw [idx_take p l k (by omega) hd (by assumption)], rfl⟩
    · have f7 := h5
      try simp only [decide_eq_true_eq, decide_eq_false_iff_not, Bool.not_eq_true', Bool.not_eq_false', Int.not_lt, Int.not_le] at f7
      refine WA.skip ?_
      refine WA.mark ?_
      refine WA.region ?_
      refine WR.val (G0 rfl) rfl rfl (.add rfl rfl rfl (by omega) (by omega)) ?_
      refine WR.val (G0 rfl) rfl rfl (.move rfl rfl) ?_
      refine WR.nil ?_
      exact WA.roundK (k + 1) (.cons rfl (.cons rfl (.cons rfl (.nil _)))) (.cons rfl (.nil _)) .slnil ⟨by omega, lt_snoc hd (by assumption)⟩ (by omega)
  · have f8 := h2
    try simp only [decide_eq_true_eq, decide_eq_false_iff_not, Bool.not_eq_true', Bool.not_eq_false', Int.not_lt, Int.not_le] at f8
    refine WA.exit rfl ?_
    refine WA.seq ?_
    refine WA.region ?_
    refine WR.val (G0 rfl) rfl rfl (.assign rfl rfl) ?_
    refine WR.nil ?_
    exact WA.ret1 rfl rfl (List.nil_sublist _) ⟨by rw [idx_none p l (fun j hj => hd j (by omega))], rfl⟩
set_option maxRecDepth 20000 in
/-- slices.ContainsFunc[[]redpencil/api.Dot,redpencil/api.Dot] -/
theorem conFD (l : List Dot) (A : Option Addr) (cap : Nat) (g : FuncId) (caps : List Value) (p : Dot → Bool) (w : World) (hS : SlD w A l) (hl : l.length ≤ 1000000) (hg : Proofs.Enters Tryz.prog g) (hp : ∀ x ∈ l, ∀ W, Below w.heap.size w W → Ct Tryz.prog g (dv x :: caps).toArray [] W (fun u hs => u = .bool (p x) ∧ hs = [])) : Ct Tryz.prog 175 #[.slice A l.length cap, .func (.func g) #[] caps.toArray] [] w (fun u hs => u = .bool (l.any p) ∧ hs = []) := by
  refine Ct.intro Tryz.func175 rfl Tryz.ntmps175 rfl ?_
  refine WA.seq ?_
  refine WA.region ?_
  refine WR.val (G0 rfl) rfl rfl (.assign rfl rfl) ?_
  refine WR.nil ?_
  refine WA.seq ?_
  refine WA.region ?_
  refine WR.val (G0 rfl) rfl rfl (.move rfl rfl) ?_
  refine WR.val (G0 rfl) rfl rfl (.move rfl rfl) ?_
  refine WR.dw (G0 rfl) rfl rfl (.callv (caps := []) rfl rfl rfl EN_228 (fun w hw => idxFD l A cap g caps p _ (hw.slf0 hS) hl hg (fun x hx W hW => hp x hx W (hw.below.trans (hW.mono hw.below.size))))) ?_
  rintro _ _ ⟨rfl, rfl⟩
  refine WR.val (G0 rfl) rfl rfl (.geq rfl rfl rfl) ?_
  refine WR.val (G0 rfl) rfl rfl (.assign rfl rfl) ?_
  refine WR.nil ?_
  exact WA.ret1 rfl rfl (List.nil_sublist _) ⟨by congr 1; rw [Bool.eq_iff_iff, ← idx_any, decide_eq_true_eq], rfl⟩
set_option maxRecDepth 20000 in
/-- slices.IndexFunc[[]rune,rune] -/
theorem idxFR (l : List Int) (A : Option Addr) (cap : Nat) (g : FuncId) (caps : List Value) (p : Int → Bool) (w : World) (hS : SlR w A l) (hl : l.length ≤ 1000000) (hg : Proofs.Enters Tryz.prog g) (hp : ∀ x ∈ l, ∀ W, Below w.heap.size w W → Ct Tryz.prog g (.int .i32 x :: caps).toArray [] W (fun u hs => u = .bool (p x) ∧ hs = [])) : Ct Tryz.prog 181 #[.slice A l.length cap, .func (.func g) #[] caps.toArray] [] w (fun u hs => u = .int .i64 (idx p l) ∧ hs = []) := by
  refine Ct.intro Tryz.func181 rfl Tryz.ntmps181 rfl ?_
  refine WA.seq ?_
  refine WA.region ?_
  refine WR.val (G0 rfl) rfl rfl (.assign rfl rfl) ?_
  refine WR.nil ?_
  refine WA.seq ?_
  refine WA.seq ?_
  refine WA.region ?_
  refine WR.val (G0 rfl) rfl rfl (.move rfl rfl) ?_
  refine WR.val (G0 rfl) rfl rfl (.len rfl ST_63.1 rfl) ?_
  refine WR.val (G0 rfl) rfl rfl (.move rfl rfl) ?_
  refine WR.nil ?_
  refine WA.block ?_
  refine WA.loopK (γ := Nat) [(0, _), (1, _), (7, _)] [] (fun k => [(8, .int .i64 (k : Int))]) (fun k => []) (fun k => k ≤ l.length ∧ ∀ j : Nat, j < k → p (gx l (j : Int)) = false) (fun k => l.length - k) 0 (.cons rfl (.cons rfl (.cons rfl (.nil _)))) (.cons rfl (.nil _)) .slnil ⟨by omega, fun _ _ => by omega⟩ ?_
  intro k hk
  obtain ⟨hk, hd⟩ := hk
  refine WA.seq ?_
  refine WA.region ?_
  refine WR.val (G0 rfl) rfl rfl (.lss rfl rfl rfl) ?_
  refine WR.nil ?_
  refine WA.seq ?_
  refine WA.cond rfl (fun h2 => ?_) (fun h2 => ?_)
  · have f3 := h2
    try simp only [decide_eq_true_eq, decide_eq_false_iff_not, Bool.not_eq_true', Bool.not_eq_false', Int.not_lt, Int.not_le] at f3
    refine WA.skip ?_
    refine WA.seq ?_
    refine WA.block ?_
    refine WA.seq ?_
    refine WA.region ?_
    refine WR.val (G0 rfl) rfl rfl (.move rfl rfl) ?_
    refine WR.val (G0 rfl) rfl rfl (.assign rfl rfl) ?_
    refine WR.nil ?_
    refine WA.seq ?_
    refine WA.region ?_
    refine WR.val (G0 rfl) rfl rfl (.move rfl rfl) ?_
    refine WR.val (G0 rfl) rfl rfl (.move rfl rfl) ?_
    refine WR.val (G0 rfl) rfl rfl (.move rfl rfl) ?_
    refine WR.val (G0 rfl) rfl rfl (.ix rfl ST_63 rfl rfl (by omega) (by omega) (fun _ hw hn => (hw.slf0 hS).some_ hn)) ?_
    refine WR.val (G0 rfl) rfl rfl (.load1 rfl NA_21 rfl (fun _ hw => rdR (hw.slf0 hS) (by omega) (by omega))) ?_
    refine WR.dw (G0 rfl) rfl rfl (.callv (caps := caps) rfl rfl rfl hg (fun w hw => hp _ (gx_mem (by omega) (by omega)) _ hw.below)) ?_
    rintro _ _ ⟨rfl, rfl⟩
    refine WR.nil ?_
    refine WA.cond rfl (fun h5 => ?_) (fun h5 => ?_)
    · have f6 := h5
      try simp only [decide_eq_true_eq, decide_eq_false_iff_not, Bool.not_eq_true', Bool.not_eq_false', Int.not_lt, Int.not_le] at f6
      refine WA.seq ?_
      refine WA.region ?_
      refine WR.val (G0 rfl) rfl rfl (.move rfl rfl) ?_
      refine WR.val (G0 rfl) rfl rfl (.assign rfl rfl) ?_
      refine WR.nil ?_
      exact WA.ret1 rfl rfl (List.nil_sublist _) ⟨by rw [idx_take p l k (by omega) hd (by assumption)], rfl⟩
    · have f7 := h5
      try simp only [decide_eq_true_eq, decide_eq_false_iff_not, Bool.not_eq_true', Bool.not_eq_false', Int.not_lt, Int.not_le] at f7
      refine WA.skip ?_
      refine WA.mark ?_
      refine WA.region ?_
      refine WR.val (G0 rfl) rfl rfl (.add rfl rfl rfl (by omega) (by omega)) ?_
      refine WR.val (G0 rfl) rfl rfl (.move rfl rfl) ?_
      refine WR.nil ?_
      exact WA.roundK (k + 1) (.cons rfl (.cons rfl (.cons rfl (.nil _)))) (.cons rfl (.nil _)) .slnil ⟨by omega, lt_snoc hd (by assumption)⟩ (by omega)
  · have f8 := h2
    try simp only [decide_eq_true_eq, decide_eq_false_iff_not, Bool.not_eq_true', Bool.not_eq_false', Int.not_lt, Int.not_le] at f8
    refine WA.exit rfl ?_
    refine WA.seq ?_
    refine WA.region ?_
    refine WR.val (G0 rfl) rfl rfl (.assign rfl rfl) ?_
    refine WR.nil ?_
    exact WA.ret1 rfl rfl (List.nil_sublist _) ⟨by rw [idx_none p l (fun j hj => hd j (by omega))], rfl⟩
set_option maxRecDepth 20000 in
/-- slices.ContainsFunc[[]rune,rune] -/
theorem conFR (l : List Int) (A : Option Addr) (cap : Nat) (g : FuncId) (caps : List Value) (p : Int → Bool) (w : World) (hS : SlR w A l) (hl : l.length ≤ 1000000) (hg : Proofs.Enters Tryz.prog g) (hp : ∀ x ∈ l, ∀ W, Below w.heap.size w W → Ct Tryz.prog g (.int .i32 x :: caps).toArray [] W (fun u hs => u = .bool (p x) ∧ hs = [])) : Ct Tryz.prog 122 #[.slice A l.length cap, .func (.func g) #[] caps.toArray] [] w (fun u hs => u = .bool (l.any p) ∧ hs = []) := by
  refine Ct.intro Tryz.func122 rfl Tryz.ntmps122 rfl ?_
  refine WA.seq ?_
  refine WA.region ?_
  refine WR.val (G0 rfl) rfl rfl (.assign rfl rfl) ?_
  refine WR.nil ?_
  refine WA.seq ?_
  refine WA.region ?_
  refine WR.val (G0 rfl) rfl rfl (.move rfl rfl) ?_
  refine WR.val (G0 rfl) rfl rfl (.move rfl rfl) ?_
  refine WR.dw (G0 rfl) rfl rfl (.callv (caps := []) rfl rfl rfl EN_181 (fun w hw => idxFR l A cap g caps p _ (hw.slf0 hS) hl hg (fun x hx W hW => hp x hx W (hw.below.trans (hW.mono hw.below.size))))) ?_
  rintro _ _ ⟨rfl, rfl⟩
  refine WR.val (G0 rfl) rfl rfl (.geq rfl rfl rfl) ?_
  refine WR.val (G0 rfl) rfl rfl (.assign rfl rfl) ?_
  refine WR.nil ?_
  exact WA.ret1 rfl rfl (List.nil_sublist _) ⟨by congr 1; rw [Bool.eq_iff_iff, ← idx_any, decide_eq_true_eq], rfl⟩
set_option maxRecDepth 20000 in
/-- slices.Clone[[]redpencil/api.Node,redpencil/api.Node] -/
theorem cloneFN (l : List Nd) (A : Option Addr) (cap : Nat) (w : World) (hS : SlN w A l) (hl : l.length ≤ 1000000) : Ct Tryz.prog 177 #[.slice A l.length cap] [] w (fun u hs => ∃ B c, u = .slice B l.length c ∧ hs = [En.row B l.length c 42 6 (l.flatMap nc)]) := by
  refine Ct.intro Tryz.func177 rfl Tryz.ntmps177 rfl ?_
  refine WA.seq ?_
  refine WA.region ?_
  refine WR.val (G0 rfl) rfl rfl (.assign rfl rfl) ?_
  refine WR.nil ?_
  refine WA.seq ?_
  refine WA.seq ?_
  refine WA.region ?_
  refine WR.val (G0 rfl) rfl rfl (.move rfl rfl) ?_
  refine WR.val (G0 rfl) rfl rfl (.eqnil rfl ST_22.1 rfl rfl) ?_
  refine WR.nil ?_
  refine WA.cond rfl (fun h2 => ?_) (fun h2 => ?_)
  · have f3 := h2
    try simp only [decide_eq_true_eq, decide_eq_false_iff_not, Bool.not_eq_true', Bool.not_eq_false', Int.not_lt, Int.not_le] at f3
    refine WA.seq ?_
    refine WA.region ?_
    refine WR.val (G0 rfl) rfl rfl (.assign rfl rfl) ?_
    refine WR.nil ?_
    have hn0 : l = [] := by rcases Nat.eq_zero_or_pos l.length with h | h; exact List.eq_nil_of_length_eq_zero h; have := hS.some_ h; simp_all
    subst hn0
    refine WA.nilrow 42 6 ?_
    exact WA.ret1 rfl rfl (.refl _) ⟨_, _, rfl, rfl⟩
  · have f4 := h2
    try simp only [decide_eq_true_eq, decide_eq_false_iff_not, Bool.not_eq_true', Bool.not_eq_false', Int.not_lt, Int.not_le] at f4
    refine WA.skip ?_
    refine WA.seq ?_
    refine WA.region ?_
    refine WR.dw (G0 rfl) rfl rfl (.buildSlice (k := 6) (e := 42) (vs := []) rfl rfl rfl (fun _ => by kernel_rfl) rfl) ?_
    rintro _ _ ⟨b6, rfl, rfl⟩
    refine WR.asrow (k := 6) 0 0 rfl rfl (by simp [maxLen]) ?_
    refine WR.val (G0 rfl) rfl rfl (.move rfl rfl) ?_
    refine WR.dw (G0 rfl) rfl rfl (.append 0 rfl ST_22.1 ZT_42 rfl (by decide) rfl rfl rfl (fun _ hw => hw.slf0 hS) (one_flat one_nc _) (by omega) (by omega)) ?_
    rintro _ _ ⟨A7, c8, rfl, rfl⟩
    refine WR.val (G0 rfl) rfl rfl (.assign rfl rfl) ?_
    refine WR.nil ?_
    refine WA.roweq 0 rfl l.length (l.flatMap nc) (by simp) (by simp) ?_
    exact WA.ret1 rfl rfl (.refl _) ⟨_, _, by simp, rfl⟩
set_option maxRecDepth 20000 in
/-- slices.Clone[[]redpencil/api.Dot,redpencil/api.Dot] -/
theorem cloneFD (l : List Dot) (A : Option Addr) (cap : Nat) (w : World) (hS : SlD w A l) (hl : l.length ≤ 1000000) : Ct Tryz.prog 156 #[.slice A l.length cap] [] w (fun u hs => ∃ B c, u = .slice B l.length c ∧ hs = [En.row B l.length c 39 2 (l.flatMap dc)]) := by
  refine Ct.intro Tryz.func156 rfl Tryz.ntmps156 rfl ?_
  refine WA.seq ?_
  refine WA.region ?_
  refine WR.val (G0 rfl) rfl rfl (.assign rfl rfl) ?_
  refine WR.nil ?_
  refine WA.seq ?_
  refine WA.seq ?_
  refine WA.region ?_
  refine WR.val (G0 rfl) rfl rfl (.move rfl rfl) ?_
  refine WR.val (G0 rfl) rfl rfl (.eqnil rfl ST_25.1 rfl rfl) ?_
  refine WR.nil ?_
  refine WA.cond rfl (fun h2 => ?_) (fun h2 => ?_)
  · have f3 := h2
    try simp only [decide_eq_true_eq, decide_eq_false_iff_not, Bool.not_eq_true', Bool.not_eq_false', Int.not_lt, Int.not_le] at f3
    refine WA.seq ?_
    refine WA.region ?_
    refine WR.val (G0 rfl) rfl rfl (.assign rfl rfl) ?_
    refine WR.nil ?_
    have hn0 : l = [] := by rcases Nat.eq_zero_or_pos l.length with h | h; exact List.eq_nil_of_length_eq_zero h; have := hS.some_ h; simp_all
    subst hn0
    refine WA.nilrow 39 2 ?_
    exact WA.ret1 rfl rfl (.refl _) ⟨_, _, rfl, rfl⟩
  · have f4 := h2
    try simp only [decide_eq_true_eq, decide_eq_false_iff_not, Bool.not_eq_true', Bool.not_eq_false', Int.not_lt, Int.not_le] at f4
    refine WA.skip ?_
    refine WA.seq ?_
    refine WA.region ?_
    refine WR.dw (G0 rfl) rfl rfl (.buildSlice (k := 2) (e := 39) (vs := []) rfl rfl rfl (fun _ => by kernel_rfl) rfl) ?_
    rintro _ _ ⟨b6, rfl, rfl⟩
    refine WR.asrow (k := 2) 0 0 rfl rfl (by simp [maxLen]) ?_
    refine WR.val (G0 rfl) rfl rfl (.move rfl rfl) ?_
    refine WR.dw (G0 rfl) rfl rfl (.append 0 rfl ST_25.1 ZT_39 rfl (by decide) rfl rfl rfl (fun _ hw => hw.slf0 hS) (one_flat one_dc _) (by omega) (by omega)) ?_
    rintro _ _ ⟨A7, c8, rfl, rfl⟩
    refine WR.val (G0 rfl) rfl rfl (.assign rfl rfl) ?_
    refine WR.nil ?_
    refine WA.roweq 0 rfl l.length (l.flatMap dc) (by simp) (by simp) ?_
    exact WA.ret1 rfl rfl (.refl _) ⟨_, _, by simp, rfl⟩
set_option maxRecDepth 20000 in
/-- slices.BinarySearchFunc[[]redpencil/api.Dot,redpencil/api.Dot,redpencil/api.Dot] -/
theorem bsFD (l : List Dot) (A : Option Addr) (cap : Nat) (d : Dot) (g : FuncId) (caps : List Value) (c : Dot → Int) (w : World) (hS : SlD w A l) (hl : l.length ≤ 1000000) (hm : Mono c l) (hg : Proofs.Enters Tryz.prog g) (hp : ∀ x ∈ l, ∀ W, Below w.heap.size w W → Ct Tryz.prog g (dv x :: dv d :: caps).toArray [] W (fun u hs => u = .int .i64 (c x) ∧ hs = [])) : Ct Tryz.prog 121 #[.slice A l.length cap, dv d, .func (.func g) #[] caps.toArray] [] w (fun u hs => u = .tuple #[.int .i64 (lbn c l), .bool (bsf c l)] ∧ hs = []) := by
  refine Ct.intro Tryz.func121 rfl Tryz.ntmps121 rfl ?_
  refine WA.seq ?_
  refine WA.region ?_
  refine WR.dw (G0 rfl) rfl rfl (.box (vs := [_, _]) rfl rfl rfl) ?_
  rintro _ _ ⟨b2, rfl, rfl⟩
  refine WR.val (G0 rfl) rfl rfl (.assign rfl rfl) ?_
  refine WR.val (G0 rfl) rfl rfl (.assign rfl rfl) ?_
  refine WR.nil ?_
  refine WA.seq ?_
  refine WA.region ?_
  refine WR.val (G0 rfl) rfl rfl (.move rfl rfl) ?_
  refine WR.val (G0 rfl) rfl rfl (.len rfl ST_25.1 rfl) ?_
  refine WR.val (G0 rfl) rfl rfl (.assign rfl rfl) ?_
  refine WR.nil ?_
  refine WA.seq ?_
  refine WA.region ?_
  refine WR.val (G0 rfl) rfl rfl (.move rfl rfl) ?_
  refine WR.val (G0 rfl) rfl rfl (.assign rfl rfl) ?_
  refine WR.val (G0 rfl) rfl rfl (.assign rfl rfl) ?_
  refine WR.nil ?_
  refine WA.seq ?_
  refine WA.block ?_
  refine WA.loopK (γ := Nat × Nat) [(0, _), (2, _), (4, _), (6, _), (7, _), (8, _)] [_] (fun q => [(9, .int .i64 (q.1 : Int)), (10, .int .i64 (q.2 : Int))]) (fun q => []) (fun q => q.1 ≤ q.2 ∧ q.2 ≤ l.length ∧ (∀ j : Nat, j < q.1 → c (gx l (j : Int)) < 0) ∧ (∀ j : Nat, q.2 ≤ j → j < l.length → ¬ c (gx l (j : Int)) < 0)) (fun q => q.2 - q.1) (0, l.length) (.cons rfl (.cons rfl (.cons rfl (.cons rfl (.cons rfl (.cons rfl (.nil _))))))) (.cons rfl (.cons rfl (.nil _))) (.refl _) ⟨by simp, by simp, fun _ h => by simp at h, fun _ h1 h2 => by simp at h1; omega⟩ ?_
  intro q hk
  obtain ⟨hij, hjl, hlo, hhi⟩ := hk
  have hmid : (((q.1 : Int) + (q.2 : Int)) / 2) = ((((q.1 + q.2) / 2 : Nat)) : Int) := by omega
  refine WA.seq ?_
  refine WA.seq ?_
  refine WA.region ?_
  refine WR.val (G0 rfl) rfl rfl (.move rfl rfl) ?_
  refine WR.val (G0 rfl) rfl rfl (.move rfl rfl) ?_
  refine WR.val (G0 rfl) rfl rfl (.lss rfl rfl rfl) ?_
  refine WR.nil ?_
  refine WA.cond rfl (fun h4 => ?_) (fun h4 => ?_)
  · have f5 := h4
    try simp only [decide_eq_true_eq, decide_eq_false_iff_not, Bool.not_eq_true', Bool.not_eq_false', Int.not_lt, Int.not_le] at f5
    refine WA.skip ?_
    refine WA.block ?_
    refine WA.seq ?_
    refine WA.region ?_
    refine WR.val (G0 rfl) rfl rfl (.move rfl rfl) ?_
    refine WR.val (G0 rfl) rfl rfl (.move rfl rfl) ?_
    refine WR.val (G0 rfl) rfl rfl (.add rfl rfl rfl (by omega) (by omega)) ?_
    refine WR.val (G0 rfl) rfl rfl (.conv rfl (by rw [Tryz.underlying3]; rfl) Tryz.underlying216 rfl (wrap_u64 (by omega) (by omega))) ?_
    refine WR.val (G0 rfl) rfl rfl (.shr1 rfl rfl rfl) ?_
    refine WR.val (G0 rfl) rfl rfl (.conv rfl (by rw [Tryz.underlying216]; rfl) Tryz.underlying3 rfl (wrap_i64 (by omega) (by omega))) ?_
    refine WR.val (G0 rfl) rfl rfl (.assign rfl rfl) ?_
    refine WR.nil ?_
    refine WA.seq ?_
    refine WA.draws0 follows ?_
    refine WH.take 0 rfl (Pf_blind _ _ _ _ _) (by kernel_rfl) (by kernel_rfl) (by kernel_rfl) (.refl _) (G0 rfl) rfl rfl (.move rfl rfl) ?_
    refine WH.take 1 rfl (Pf_blind _ _ _ _ _) (by kernel_rfl) (by kernel_rfl) (by kernel_rfl) (.refl _) (G0 rfl) rfl rfl (.move rfl rfl) ?_
    refine WH.take 2 rfl (Pf_blind _ _ _ _ _) (by kernel_rfl) (by kernel_rfl) (by kernel_rfl) (.refl _) (G0 rfl) rfl rfl (.move rfl rfl) ?_
    refine WH.take 3 rfl (Pf_blind _ _ _ _ _) (by kernel_rfl) (by kernel_rfl) (by kernel_rfl) (.refl _) (G0 rfl) rfl rfl (.ix rfl ST_25 rfl rfl (by omega) (by omega) (fun _ hw hn => (hw.slf0 hS).some_ hn)) ?_
    refine WH.take 4 rfl (Pf_blind _ _ _ _ _) (by kernel_rfl) (by kernel_rfl) (by kernel_rfl) (.refl _) (G0 rfl) rfl rfl (.loadK (vs := [_, _]) rfl AG_39 rfl (fun _ hw => rdD (hw.slf0 hS) (by omega) (by omega))) ?_
    refine WH.take 5 rfl (Pf_blind _ _ _ _ _) (by kernel_rfl) (by kernel_rfl) (by kernel_rfl) (.refl _) (G0 rfl) rfl rfl (.loadK (vs := [_, _]) rfl AG_39 rfl (fun _ hw => hw.rd_blk (k := 2) 0 rfl rfl)) ?_
    refine WH.dw 6 rfl (by kernel_rfl) (G0 rfl) rfl rfl (.callv (caps := caps) rfl rfl rfl hg (fun w hw => hp _ (gx_mem (by omega) (by omega)) _ hw.below)) ?_
    rintro _ _ ⟨rfl, rfl⟩
    refine ⟨(.refl _), ?_⟩
    refine WH.take 7 rfl (Pf_blind _ _ _ _ _) (by kernel_rfl) (by kernel_rfl) (by kernel_rfl) (.refl _) (G0 rfl) rfl rfl (.lss rfl rfl rfl) ?_
    refine WH.done (by kernel_rfl) ?_
    refine WA.cond rfl (fun h7 => ?_) (fun h7 => ?_)
    · have f8 := h7
      try simp only [decide_eq_true_eq, decide_eq_false_iff_not, Bool.not_eq_true', Bool.not_eq_false', Int.not_lt, Int.not_le] at f8
      refine WA.region ?_
      refine WR.val (G0 rfl) rfl rfl (.move rfl rfl) ?_
      refine WR.val (G0 rfl) rfl rfl (.add rfl rfl rfl (by omega) (by omega)) ?_
      refine WR.val (G0 rfl) rfl rfl (.assign rfl rfl) ?_
      refine WR.nil ?_
      refine WA.mark ?_
      exact WA.roundK ((q.1 + q.2) / 2 + 1, q.2) (.cons rfl (.cons rfl (.cons rfl (.cons rfl (.cons rfl (.cons rfl (.nil _))))))) (.cons rfl (.cons rfl (.nil _))) (.refl _) ⟨by dsimp only; omega, by dsimp only; omega, fun j hj => by (rcases Nat.lt_or_ge j q.1 with h | h; exact hlo j h; exact hm j ((q.1 + q.2) / 2) (by dsimp only at hj; omega) (by omega) (by rw [← hmid]; assumption)), hhi⟩ (by dsimp only; omega)
    · have f9 := h7
      try simp only [decide_eq_true_eq, decide_eq_false_iff_not, Bool.not_eq_true', Bool.not_eq_false', Int.not_lt, Int.not_le] at f9
      refine WA.region ?_
      refine WR.val (G0 rfl) rfl rfl (.move rfl rfl) ?_
      refine WR.val (G0 rfl) rfl rfl (.assign rfl rfl) ?_
      refine WR.nil ?_
      refine WA.mark ?_
      exact WA.roundK (q.1, (q.1 + q.2) / 2) (.cons rfl (.cons rfl (.cons rfl (.cons rfl (.cons rfl (.cons rfl (.nil _))))))) (.cons rfl (.cons rfl (.nil _))) (.refl _) ⟨by dsimp only; omega, by dsimp only; omega, hlo, fun j hj hjl' hc => (by (have h9 := hm ((q.1 + q.2) / 2) j (by dsimp only at hj; omega) hjl' hc; rw [← hmid] at h9; omega))⟩ (by dsimp only; omega)
  · have f10 := h4
    try simp only [decide_eq_true_eq, decide_eq_false_iff_not, Bool.not_eq_true', Bool.not_eq_false', Int.not_lt, Int.not_le] at f10
    refine WA.exit rfl ?_
    refine WA.seq ?_
    refine WA.draws0 follows ?_
    refine WH.take 0 rfl (Pf_blind _ _ _ _ _) (by kernel_rfl) (by kernel_rfl) (by kernel_rfl) (.refl _) (G0 rfl) rfl rfl (.move rfl rfl) ?_
    refine WH.take 1 rfl (Pf_blind _ _ _ _ _) (by kernel_rfl) (by kernel_rfl) (by kernel_rfl) (.refl _) (G0 rfl) rfl rfl (.move rfl rfl) ?_
    refine WH.take 2 rfl (Pf_blind _ _ _ _ _) (by kernel_rfl) (by kernel_rfl) (by kernel_rfl) (.refl _) (G0 rfl) rfl rfl (.move rfl rfl) ?_
    refine WH.take 3 rfl (Pf_blind _ _ _ _ _) (by kernel_rfl) (by kernel_rfl) (by kernel_rfl) (.refl _) (G0 rfl) rfl rfl (.lss rfl rfl rfl) ?_
    refine WH.take 4 rfl (Pf_blind _ _ _ _ _) (by kernel_rfl) (by kernel_rfl) (by kernel_rfl) (.refl _) (G0 rfl) rfl rfl (.move rfl rfl) ?_
    refine WH.split (d := 39) rfl (fun h12 => ?_) (fun h12 => ?_)
    · have f13 := h12
      try simp only [decide_eq_true_eq, decide_eq_false_iff_not, Bool.not_eq_true', Bool.not_eq_false', Int.not_lt, Int.not_le] at f13
      refine WH.take 5 rfl (Pf_blind _ _ _ _ _) (by kernel_rfl) (by kernel_rfl) (by kernel_rfl) (.refl _) (Gt rfl rfl rfl h12) rfl rfl (.move rfl rfl) ?_
      refine WH.take 6 rfl (Pf_blind _ _ _ _ _) (by kernel_rfl) (by kernel_rfl) (by kernel_rfl) (.refl _) (Gt rfl rfl rfl h12) rfl rfl (.move rfl rfl) ?_
      refine WH.take 7 rfl (Pf_blind _ _ _ _ _) (by kernel_rfl) (by kernel_rfl) (by kernel_rfl) (.refl _) (Gt rfl rfl rfl h12) rfl rfl (.move rfl rfl) ?_
      refine WH.take 8 rfl (Pf_blind _ _ _ _ _) (by kernel_rfl) (by kernel_rfl) (by kernel_rfl) (.refl _) (Gt rfl rfl rfl h12) rfl rfl (.ix rfl ST_25 rfl rfl (by omega) (by omega) (fun _ hw hn => (hw.slf0 hS).some_ hn)) ?_
      refine WH.take 9 rfl (Pf_blind _ _ _ _ _) (by kernel_rfl) (by kernel_rfl) (by kernel_rfl) (.refl _) (Gt rfl rfl rfl h12) rfl rfl (.loadK (vs := [_, _]) rfl AG_39 rfl (fun _ hw => rdD (hw.slf0 hS) (by omega) (by omega))) ?_
      refine WH.take 10 rfl (Pf_blind _ _ _ _ _) (by kernel_rfl) (by kernel_rfl) (by kernel_rfl) (.refl _) (Gt rfl rfl rfl h12) rfl rfl (.loadK (vs := [_, _]) rfl AG_39 rfl (fun _ hw => hw.rd_blk (k := 2) 0 rfl rfl)) ?_
      refine WH.dw 11 rfl (by kernel_rfl) (Gt rfl rfl rfl h12) rfl rfl (.callv (caps := caps) rfl rfl rfl hg (fun w hw => hp _ (gx_mem (by omega) (by omega)) _ hw.below)) ?_
      rintro _ _ ⟨rfl, rfl⟩
      refine ⟨(.refl _), ?_⟩
      refine WH.take 12 rfl (Pf_blind _ _ _ _ _) (by kernel_rfl) (by kernel_rfl) (by kernel_rfl) (.refl _) (Gt rfl rfl rfl h12) rfl rfl (.eql rfl rfl rfl) ?_
      refine WH.take 13 rfl (Pf_blind _ _ _ _ _) (by kernel_rfl) (by kernel_rfl) (by kernel_rfl) (.refl _) (G0 rfl) rfl rfl (.pick_t rfl rfl h12 rfl) ?_
      refine WH.take 14 rfl (Pf_blind _ _ _ _ _) (by kernel_rfl) (by kernel_rfl) (by kernel_rfl) (.refl _) (G0 rfl) rfl rfl (.assign rfl rfl) ?_
      refine WH.take 15 rfl (Pf_blind _ _ _ _ _) (by kernel_rfl) (by kernel_rfl) (by kernel_rfl) (.refl _) (G0 rfl) rfl rfl (.assign rfl rfl) ?_
      refine WH.done (by kernel_rfl) ?_
      have hE : lbn c l = q.1 := lbn_eq (by omega) hlo (fun j h1 h2 => hhi j (by omega) h2)
      exact WA.ret2 rfl rfl rfl (List.nil_sublist _) ⟨by rw [bsf, hE]; first | (have hlt : q.1 < l.length := (by omega); simp [hlt]; done) | (have hge : ¬ q.1 < l.length := (by omega); simp [hge]; done), rfl⟩
    · have f15 := h12
      try simp only [decide_eq_true_eq, decide_eq_false_iff_not, Bool.not_eq_true', Bool.not_eq_false', Int.not_lt, Int.not_le] at f15
      refine WH.off 5 rfl (Pf_blind _ _ _ _ _) (by kernel_rfl) (by kernel_rfl) (by kernel_rfl) (.refl _) (Gf rfl rfl rfl h12) rfl rfl ?_
      refine WH.off 6 rfl (Pf_blind _ _ _ _ _) (by kernel_rfl) (by kernel_rfl) (by kernel_rfl) (.refl _) (Gf rfl rfl rfl h12) rfl rfl ?_
      refine WH.off 7 rfl (Pf_blind _ _ _ _ _) (by kernel_rfl) (by kernel_rfl) (by kernel_rfl) (.refl _) (Gf rfl rfl rfl h12) rfl rfl ?_
      refine WH.off 8 rfl (Pf_blind _ _ _ _ _) (by kernel_rfl) (by kernel_rfl) (by kernel_rfl) (.refl _) (Gf rfl rfl rfl h12) rfl rfl ?_
      refine WH.off 9 rfl (Pf_blind _ _ _ _ _) (by kernel_rfl) (by kernel_rfl) (by kernel_rfl) (.refl _) (Gf rfl rfl rfl h12) rfl rfl ?_
      refine WH.off 10 rfl (Pf_blind _ _ _ _ _) (by kernel_rfl) (by kernel_rfl) (by kernel_rfl) (.refl _) (Gf rfl rfl rfl h12) rfl rfl ?_
      refine WH.off 11 rfl (Pf_blind _ _ _ _ _) (by kernel_rfl) (by kernel_rfl) (by kernel_rfl) (.refl _) (Gf rfl rfl rfl h12) rfl rfl ?_
      refine WH.off 12 rfl (Pf_blind _ _ _ _ _) (by kernel_rfl) (by kernel_rfl) (by kernel_rfl) (.refl _) (Gf rfl rfl rfl h12) rfl rfl ?_
      refine WH.take 13 rfl (Pf_blind _ _ _ _ _) (by kernel_rfl) (by kernel_rfl) (by kernel_rfl) (.refl _) (G0 rfl) rfl rfl (.pick_f rfl rfl h12 rfl) ?_
      refine WH.take 14 rfl (Pf_blind _ _ _ _ _) (by kernel_rfl) (by kernel_rfl) (by kernel_rfl) (.refl _) (G0 rfl) rfl rfl (.assign rfl rfl) ?_
      refine WH.take 15 rfl (Pf_blind _ _ _ _ _) (by kernel_rfl) (by kernel_rfl) (by kernel_rfl) (.refl _) (G0 rfl) rfl rfl (.assign rfl rfl) ?_
      refine WH.done (by kernel_rfl) ?_
      have hE : lbn c l = q.1 := lbn_eq (by omega) hlo (fun j h1 h2 => hhi j (by omega) h2)
      exact WA.ret2 rfl rfl rfl (List.nil_sublist _) ⟨by rw [bsf, hE]; first | (have hlt : q.1 < l.length := (by omega); simp [hlt]; done) | (have hge : ¬ q.1 < l.length := (by omega); simp [hge]; done), rfl⟩
set_option maxRecDepth 20000 in
/-- slices.BinarySearchFunc[[]redpencil/api.Node,redpencil/api.Node,redpencil/api.Dot] -/
theorem bsFN (l : List Nd) (A : Option Addr) (cap : Nat) (d : Dot) (g : FuncId) (caps : List Value) (c : Nd → Int) (w : World) (hS : SlN w A l) (hl : l.length ≤ 1000000) (hm : Mono c l) (hg : Proofs.Enters Tryz.prog g) (hp : ∀ x ∈ l, ∀ W, Below w.heap.size w W → Ct Tryz.prog g (nv x :: dv d :: caps).toArray [] W (fun u hs => u = .int .i64 (c x) ∧ hs = [])) : Ct Tryz.prog 229 #[.slice A l.length cap, dv d, .func (.func g) #[] caps.toArray] [] w (fun u hs => u = .tuple #[.int .i64 (lbn c l), .bool (bsf c l)] ∧ hs = []) := by
  refine Ct.intro Tryz.func229 rfl Tryz.ntmps229 rfl ?_
  refine WA.seq ?_
  refine WA.region ?_
  refine WR.dw (G0 rfl) rfl rfl (.box (vs := [_, _]) rfl rfl rfl) ?_
  rintro _ _ ⟨b2, rfl, rfl⟩
  refine WR.val (G0 rfl) rfl rfl (.assign rfl rfl) ?_
  refine WR.val (G0 rfl) rfl rfl (.assign rfl rfl) ?_
  refine WR.nil ?_
  refine WA.seq ?_
  refine WA.region ?_
  refine WR.val (G0 rfl) rfl rfl (.move rfl rfl) ?_
  refine WR.val (G0 rfl) rfl rfl (.len rfl ST_22.1 rfl) ?_
  refine WR.val (G0 rfl) rfl rfl (.assign rfl rfl) ?_
  refine WR.nil ?_
  refine WA.seq ?_
  refine WA.region ?_
  refine WR.val (G0 rfl) rfl rfl (.move rfl rfl) ?_
  refine WR.val (G0 rfl) rfl rfl (.assign rfl rfl) ?_
  refine WR.val (G0 rfl) rfl rfl (.assign rfl rfl) ?_
  refine WR.nil ?_
  refine WA.seq ?_
  refine WA.block ?_
  refine WA.loopK (γ := Nat × Nat) [(0, _), (2, _), (4, _), (6, _), (7, _), (8, _)] [_] (fun q => [(9, .int .i64 (q.1 : Int)), (10, .int .i64 (q.2 : Int))]) (fun q => []) (fun q => q.1 ≤ q.2 ∧ q.2 ≤ l.length ∧ (∀ j : Nat, j < q.1 → c (gx l (j : Int)) < 0) ∧ (∀ j : Nat, q.2 ≤ j → j < l.length → ¬ c (gx l (j : Int)) < 0)) (fun q => q.2 - q.1) (0, l.length) (.cons rfl (.cons rfl (.cons rfl (.cons rfl (.cons rfl (.cons rfl (.nil _))))))) (.cons rfl (.cons rfl (.nil _))) (.refl _) ⟨by simp, by simp, fun _ h => by simp at h, fun _ h1 h2 => by simp at h1; omega⟩ ?_
  intro q hk
  obtain ⟨hij, hjl, hlo, hhi⟩ := hk
  have hmid : (((q.1 : Int) + (q.2 : Int)) / 2) = ((((q.1 + q.2) / 2 : Nat)) : Int) := by omega
  refine WA.seq ?_
  refine WA.seq ?_
  refine WA.region ?_
  refine WR.val (G0 rfl) rfl rfl (.move rfl rfl) ?_
  refine WR.val (G0 rfl) rfl rfl (.move rfl rfl) ?_
  refine WR.val (G0 rfl) rfl rfl (.lss rfl rfl rfl) ?_
  refine WR.nil ?_
  refine WA.cond rfl (fun h4 => ?_) (fun h4 => ?_)
  · have f5 := h4
    try simp only [decide_eq_true_eq, decide_eq_false_iff_not, Bool.not_eq_true', Bool.not_eq_false', Int.not_lt, Int.not_le] at f5
    refine WA.skip ?_
    refine WA.block ?_
    refine WA.seq ?_
    refine WA.region ?_
    refine WR.val (G0 rfl) rfl rfl (.move rfl rfl) ?_
    refine WR.val (G0 rfl) rfl rfl (.move rfl rfl) ?_
    refine WR.val (G0 rfl) rfl rfl (.add rfl rfl rfl (by omega) (by omega)) ?_
    refine WR.val (G0 rfl) rfl rfl (.conv rfl (by rw [Tryz.underlying3]; rfl) Tryz.underlying216 rfl (wrap_u64 (by omega) (by omega))) ?_
    refine WR.val (G0 rfl) rfl rfl (.shr1 rfl rfl rfl) ?_
    refine WR.val (G0 rfl) rfl rfl (.conv rfl (by rw [Tryz.underlying216]; rfl) Tryz.underlying3 rfl (wrap_i64 (by omega) (by omega))) ?_
    refine WR.val (G0 rfl) rfl rfl (.assign rfl rfl) ?_
    refine WR.nil ?_
    refine WA.seq ?_
    refine WA.draws0 follows ?_
    refine WH.take 0 rfl (Pf_blind _ _ _ _ _) (by kernel_rfl) (by kernel_rfl) (by kernel_rfl) (.refl _) (G0 rfl) rfl rfl (.move rfl rfl) ?_
    refine WH.take 1 rfl (Pf_blind _ _ _ _ _) (by kernel_rfl) (by kernel_rfl) (by kernel_rfl) (.refl _) (G0 rfl) rfl rfl (.move rfl rfl) ?_
    refine WH.take 2 rfl (Pf_blind _ _ _ _ _) (by kernel_rfl) (by kernel_rfl) (by kernel_rfl) (.refl _) (G0 rfl) rfl rfl (.move rfl rfl) ?_
    refine WH.take 3 rfl (Pf_blind _ _ _ _ _) (by kernel_rfl) (by kernel_rfl) (by kernel_rfl) (.refl _) (G0 rfl) rfl rfl (.ix rfl ST_22 rfl rfl (by omega) (by omega) (fun _ hw hn => (hw.slf0 hS).some_ hn)) ?_
    refine WH.take 4 rfl (Pf_blind _ _ _ _ _) (by kernel_rfl) (by kernel_rfl) (by kernel_rfl) (.refl _) (G0 rfl) rfl rfl (.loadK (vs := [_, _, _, _, _, _]) rfl AG_42 rfl (fun _ hw => rdN (hw.slf0 hS) (by omega) (by omega))) ?_
    refine WH.take 5 rfl (Pf_blind _ _ _ _ _) (by kernel_rfl) (by kernel_rfl) (by kernel_rfl) (.refl _) (G0 rfl) rfl rfl (.loadK (vs := [_, _]) rfl AG_39 rfl (fun _ hw => hw.rd_blk (k := 2) 0 rfl rfl)) ?_
    refine WH.dw 6 rfl (by kernel_rfl) (G0 rfl) rfl rfl (.callv (caps := caps) rfl rfl rfl hg (fun w hw => hp _ (gx_mem (by omega) (by omega)) _ hw.below)) ?_
    rintro _ _ ⟨rfl, rfl⟩
    refine ⟨(.refl _), ?_⟩
    refine WH.take 7 rfl (Pf_blind _ _ _ _ _) (by kernel_rfl) (by kernel_rfl) (by kernel_rfl) (.refl _) (G0 rfl) rfl rfl (.lss rfl rfl rfl) ?_
    refine WH.done (by kernel_rfl) ?_
    refine WA.cond rfl (fun h7 => ?_) (fun h7 => ?_)
    · have f8 := h7
      try simp only [decide_eq_true_eq, decide_eq_false_iff_not, Bool.not_eq_true', Bool.not_eq_false', Int.not_lt, Int.not_le] at f8
      refine WA.region ?_
      refine WR.val (G0 rfl) rfl rfl (.move rfl rfl) ?_
      refine WR.val (G0 rfl) rfl rfl (.add rfl rfl rfl (by omega) (by omega)) ?_
      refine WR.val (G0 rfl) rfl rfl (.assign rfl rfl) ?_
      refine WR.nil ?_
      refine WA.mark ?_
      exact WA.roundK ((q.1 + q.2) / 2 + 1, q.2) (.cons rfl (.cons rfl (.cons rfl (.cons rfl (.cons rfl (.cons rfl (.nil _))))))) (.cons rfl (.cons rfl (.nil _))) (.refl _) ⟨by dsimp only; omega, by dsimp only; omega, fun j hj => by (rcases Nat.lt_or_ge j q.1 with h | h; exact hlo j h; exact hm j ((q.1 + q.2) / 2) (by dsimp only at hj; omega) (by omega) (by rw [← hmid]; assumption)), hhi⟩ (by dsimp only; omega)
    · have f9 := h7
      try simp only [decide_eq_true_eq, decide_eq_false_iff_not, Bool.not_eq_true', Bool.not_eq_false', Int.not_lt, Int.not_le] at f9
      refine WA.region ?_
      refine WR.val (G0 rfl) rfl rfl (.move rfl rfl) ?_
      refine WR.val (G0 rfl) rfl rfl (.assign rfl rfl) ?_
      refine WR.nil ?_
      refine WA.mark ?_
      exact WA.roundK (q.1, (q.1 + q.2) / 2) (.cons rfl (.cons rfl (.cons rfl (.cons rfl (.cons rfl (.cons rfl (.nil _))))))) (.cons rfl (.cons rfl (.nil _))) (.refl _) ⟨by dsimp only; omega, by dsimp only; omega, hlo, fun j hj hjl' hc => (by (have h9 := hm ((q.1 + q.2) / 2) j (by dsimp only at hj; omega) hjl' hc; rw [← hmid] at h9; omega))⟩ (by dsimp only; omega)
  · have f10 := h4
    try simp only [decide_eq_true_eq, decide_eq_false_iff_not, Bool.not_eq_true', Bool.not_eq_false', Int.not_lt, Int.not_le] at f10
    refine WA.exit rfl ?_
    refine WA.seq ?_
    refine WA.draws0 follows ?_
    refine WH.take 0 rfl (Pf_blind _ _ _ _ _) (by kernel_rfl) (by kernel_rfl) (by kernel_rfl) (.refl _) (G0 rfl) rfl rfl (.move rfl rfl) ?_
    refine WH.take 1 rfl (Pf_blind _ _ _ _ _) (by kernel_rfl) (by kernel_rfl) (by kernel_rfl) (.refl _) (G0 rfl) rfl rfl (.move rfl rfl) ?_
    refine WH.take 2 rfl (Pf_blind _ _ _ _ _) (by kernel_rfl) (by kernel_rfl) (by kernel_rfl) (.refl _) (G0 rfl) rfl rfl (.move rfl rfl) ?_
    refine WH.take 3 rfl (Pf_blind _ _ _ _ _) (by kernel_rfl) (by kernel_rfl) (by kernel_rfl) (.refl _) (G0 rfl) rfl rfl (.lss rfl rfl rfl) ?_
    refine WH.take 4 rfl (Pf_blind _ _ _ _ _) (by kernel_rfl) (by kernel_rfl) (by kernel_rfl) (.refl _) (G0 rfl) rfl rfl (.move rfl rfl) ?_
    refine WH.split (d := 39) rfl (fun h12 => ?_) (fun h12 => ?_)
    · have f13 := h12
      try simp only [decide_eq_true_eq, decide_eq_false_iff_not, Bool.not_eq_true', Bool.not_eq_false', Int.not_lt, Int.not_le] at f13
      refine WH.take 5 rfl (Pf_blind _ _ _ _ _) (by kernel_rfl) (by kernel_rfl) (by kernel_rfl) (.refl _) (Gt rfl rfl rfl h12) rfl rfl (.move rfl rfl) ?_
      refine WH.take 6 rfl (Pf_blind _ _ _ _ _) (by kernel_rfl) (by kernel_rfl) (by kernel_rfl) (.refl _) (Gt rfl rfl rfl h12) rfl rfl (.move rfl rfl) ?_
      refine WH.take 7 rfl (Pf_blind _ _ _ _ _) (by kernel_rfl) (by kernel_rfl) (by kernel_rfl) (.refl _) (Gt rfl rfl rfl h12) rfl rfl (.move rfl rfl) ?_
      refine WH.take 8 rfl (Pf_blind _ _ _ _ _) (by kernel_rfl) (by kernel_rfl) (by kernel_rfl) (.refl _) (Gt rfl rfl rfl h12) rfl rfl (.ix rfl ST_22 rfl rfl (by omega) (by omega) (fun _ hw hn => (hw.slf0 hS).some_ hn)) ?_
      refine WH.take 9 rfl (Pf_blind _ _ _ _ _) (by kernel_rfl) (by kernel_rfl) (by kernel_rfl) (.refl _) (Gt rfl rfl rfl h12) rfl rfl (.loadK (vs := [_, _, _, _, _, _]) rfl AG_42 rfl (fun _ hw => rdN (hw.slf0 hS) (by omega) (by omega))) ?_
      refine WH.take 10 rfl (Pf_blind _ _ _ _ _) (by kernel_rfl) (by kernel_rfl) (by kernel_rfl) (.refl _) (Gt rfl rfl rfl h12) rfl rfl (.loadK (vs := [_, _]) rfl AG_39 rfl (fun _ hw => hw.rd_blk (k := 2) 0 rfl rfl)) ?_
      refine WH.dw 11 rfl (by kernel_rfl) (Gt rfl rfl rfl h12) rfl rfl (.callv (caps := caps) rfl rfl rfl hg (fun w hw => hp _ (gx_mem (by omega) (by omega)) _ hw.below)) ?_
      rintro _ _ ⟨rfl, rfl⟩
      refine ⟨(.refl _), ?_⟩
      refine WH.take 12 rfl (Pf_blind _ _ _ _ _) (by kernel_rfl) (by kernel_rfl) (by kernel_rfl) (.refl _) (Gt rfl rfl rfl h12) rfl rfl (.eql rfl rfl rfl) ?_
      refine WH.take 13 rfl (Pf_blind _ _ _ _ _) (by kernel_rfl) (by kernel_rfl) (by kernel_rfl) (.refl _) (G0 rfl) rfl rfl (.pick_t rfl rfl h12 rfl) ?_
      refine WH.take 14 rfl (Pf_blind _ _ _ _ _) (by kernel_rfl) (by kernel_rfl) (by kernel_rfl) (.refl _) (G0 rfl) rfl rfl (.assign rfl rfl) ?_
      refine WH.take 15 rfl (Pf_blind _ _ _ _ _) (by kernel_rfl) (by kernel_rfl) (by kernel_rfl) (.refl _) (G0 rfl) rfl rfl (.assign rfl rfl) ?_
      refine WH.done (by kernel_rfl) ?_
      have hE : lbn c l = q.1 := lbn_eq (by omega) hlo (fun j h1 h2 => hhi j (by omega) h2)
      exact WA.ret2 rfl rfl rfl (List.nil_sublist _) ⟨by rw [bsf, hE]; first | (have hlt : q.1 < l.length := (by omega); simp [hlt]; done) | (have hge : ¬ q.1 < l.length := (by omega); simp [hge]; done), rfl⟩
    · have f15 := h12
      try simp only [decide_eq_true_eq, decide_eq_false_iff_not, Bool.not_eq_true', Bool.not_eq_false', Int.not_lt, Int.not_le] at f15
      refine WH.off 5 rfl (Pf_blind _ _ _ _ _) (by kernel_rfl) (by kernel_rfl) (by kernel_rfl) (.refl _) (Gf rfl rfl rfl h12) rfl rfl ?_
      refine WH.off 6 rfl (Pf_blind _ _ _ _ _) (by kernel_rfl) (by kernel_rfl) (by kernel_rfl) (.refl _) (Gf rfl rfl rfl h12) rfl rfl ?_
      refine WH.off 7 rfl (Pf_blind _ _ _ _ _) (by kernel_rfl) (by kernel_rfl) (by kernel_rfl) (.refl _) (Gf rfl rfl rfl h12) rfl rfl ?_
      refine WH.off 8 rfl (Pf_blind _ _ _ _ _) (by kernel_rfl) (by kernel_rfl) (by kernel_rfl) (.refl _) (Gf rfl rfl rfl h12) rfl rfl ?_
      refine WH.off 9 rfl (Pf_blind _ _ _ _ _) (by kernel_rfl) (by kernel_rfl) (by kernel_rfl) (.refl _) (Gf rfl rfl rfl h12) rfl rfl ?_
      refine WH.off 10 rfl (Pf_blind _ _ _ _ _) (by kernel_rfl) (by kernel_rfl) (by kernel_rfl) (.refl _) (Gf rfl rfl rfl h12) rfl rfl ?_
      refine WH.off 11 rfl (Pf_blind _ _ _ _ _) (by kernel_rfl) (by kernel_rfl) (by kernel_rfl) (.refl _) (Gf rfl rfl rfl h12) rfl rfl ?_
      refine WH.off 12 rfl (Pf_blind _ _ _ _ _) (by kernel_rfl) (by kernel_rfl) (by kernel_rfl) (.refl _) (Gf rfl rfl rfl h12) rfl rfl ?_
      refine WH.take 13 rfl (Pf_blind _ _ _ _ _) (by kernel_rfl) (by kernel_rfl) (by kernel_rfl) (.refl _) (G0 rfl) rfl rfl (.pick_f rfl rfl h12 rfl) ?_
      refine WH.take 14 rfl (Pf_blind _ _ _ _ _) (by kernel_rfl) (by kernel_rfl) (by kernel_rfl) (.refl _) (G0 rfl) rfl rfl (.assign rfl rfl) ?_
      refine WH.take 15 rfl (Pf_blind _ _ _ _ _) (by kernel_rfl) (by kernel_rfl) (by kernel_rfl) (.refl _) (G0 rfl) rfl rfl (.assign rfl rfl) ?_
      refine WH.done (by kernel_rfl) ?_
      have hE : lbn c l = q.1 := lbn_eq (by omega) hlo (fun j h1 h2 => hhi j (by omega) h2)
      exact WA.ret2 rfl rfl rfl (List.nil_sublist _) ⟨by rw [bsf, hE]; first | (have hlt : q.1 < l.length := (by omega); simp [hlt]; done) | (have hge : ¬ q.1 < l.length := (by omega); simp [hge]; done), rfl⟩
set_option maxRecDepth 20000 in
/-- slices.BinarySearchFunc[redpencil/api.State,redpencil/api.Node,redpencil/api.Dot] -/
theorem bsFS (l : List Nd) (A : Option Addr) (cap : Nat) (d : Dot) (g : FuncId) (caps : List Value) (c : Nd → Int) (w : World) (hS : SlN w A l) (hl : l.length ≤ 1000000) (hm : Mono c l) (hg : Proofs.Enters Tryz.prog g) (hp : ∀ x ∈ l, ∀ W, Below w.heap.size w W → Ct Tryz.prog g (nv x :: dv d :: caps).toArray [] W (fun u hs => u = .int .i64 (c x) ∧ hs = [])) : Ct Tryz.prog 184 #[.slice A l.length cap, dv d, .func (.func g) #[] caps.toArray] [] w (fun u hs => u = .tuple #[.int .i64 (lbn c l), .bool (bsf c l)] ∧ hs = []) := by
  refine Ct.intro Tryz.func184 rfl Tryz.ntmps184 rfl ?_
  refine WA.seq ?_
  refine WA.region ?_
  refine WR.dw (G0 rfl) rfl rfl (.box (vs := [_, _]) rfl rfl rfl) ?_
  rintro _ _ ⟨b2, rfl, rfl⟩
  refine WR.val (G0 rfl) rfl rfl (.assign rfl rfl) ?_
  refine WR.val (G0 rfl) rfl rfl (.assign rfl rfl) ?_
  refine WR.nil ?_
  refine WA.seq ?_
  refine WA.region ?_
  refine WR.val (G0 rfl) rfl rfl (.move rfl rfl) ?_
  refine WR.val (G0 rfl) rfl rfl (.len rfl ST_23.1 rfl) ?_
  refine WR.val (G0 rfl) rfl rfl (.assign rfl rfl) ?_
  refine WR.nil ?_
  refine WA.seq ?_
  refine WA.region ?_
  refine WR.val (G0 rfl) rfl rfl (.move rfl rfl) ?_
  refine WR.val (G0 rfl) rfl rfl (.assign rfl rfl) ?_
  refine WR.val (G0 rfl) rfl rfl (.assign rfl rfl) ?_
  refine WR.nil ?_
  refine WA.seq ?_
  refine WA.block ?_
  refine WA.loopK (γ := Nat × Nat) [(0, _), (2, _), (4, _), (6, _), (7, _), (8, _)] [_] (fun q => [(9, .int .i64 (q.1 : Int)), (10, .int .i64 (q.2 : Int))]) (fun q => []) (fun q => q.1 ≤ q.2 ∧ q.2 ≤ l.length ∧ (∀ j : Nat, j < q.1 → c (gx l (j : Int)) < 0) ∧ (∀ j : Nat, q.2 ≤ j → j < l.length → ¬ c (gx l (j : Int)) < 0)) (fun q => q.2 - q.1) (0, l.length) (.cons rfl (.cons rfl (.cons rfl (.cons rfl (.cons rfl (.cons rfl (.nil _))))))) (.cons rfl (.cons rfl (.nil _))) (.refl _) ⟨by simp, by simp, fun _ h => by simp at h, fun _ h1 h2 => by simp at h1; omega⟩ ?_
  intro q hk
  obtain ⟨hij, hjl, hlo, hhi⟩ := hk
  have hmid : (((q.1 : Int) + (q.2 : Int)) / 2) = ((((q.1 + q.2) / 2 : Nat)) : Int) := by omega
  refine WA.seq ?_
  refine WA.seq ?_
  refine WA.region ?_
  refine WR.val (G0 rfl) rfl rfl (.move rfl rfl) ?_
  refine WR.val (G0 rfl) rfl rfl (.move rfl rfl) ?_
  refine WR.val (G0 rfl) rfl rfl (.lss rfl rfl rfl) ?_
  refine WR.nil ?_
  refine WA.cond rfl (fun h4 => ?_) (fun h4 => ?_)
  · have f5 := h4
    try simp only [decide_eq_true_eq, decide_eq_false_iff_not, Bool.not_eq_true', Bool.not_eq_false', Int.not_lt, Int.not_le] at f5
    refine WA.skip ?_
    refine WA.block ?_
    refine WA.seq ?_
    refine WA.region ?_
    refine WR.val (G0 rfl) rfl rfl (.move rfl rfl) ?_
    refine WR.val (G0 rfl) rfl rfl (.move rfl rfl) ?_
    refine WR.val (G0 rfl) rfl rfl (.add rfl rfl rfl (by omega) (by omega)) ?_
    refine WR.val (G0 rfl) rfl rfl (.conv rfl (by rw [Tryz.underlying3]; rfl) Tryz.underlying216 rfl (wrap_u64 (by omega) (by omega))) ?_
    refine WR.val (G0 rfl) rfl rfl (.shr1 rfl rfl rfl) ?_
    refine WR.val (G0 rfl) rfl rfl (.conv rfl (by rw [Tryz.underlying216]; rfl) Tryz.underlying3 rfl (wrap_i64 (by omega) (by omega))) ?_
    refine WR.val (G0 rfl) rfl rfl (.assign rfl rfl) ?_
    refine WR.nil ?_
    refine WA.seq ?_
    refine WA.draws0 follows ?_
    refine WH.take 0 rfl (Pf_blind _ _ _ _ _) (by kernel_rfl) (by kernel_rfl) (by kernel_rfl) (.refl _) (G0 rfl) rfl rfl (.move rfl rfl) ?_
    refine WH.take 1 rfl (Pf_blind _ _ _ _ _) (by kernel_rfl) (by kernel_rfl) (by kernel_rfl) (.refl _) (G0 rfl) rfl rfl (.move rfl rfl) ?_
    refine WH.take 2 rfl (Pf_blind _ _ _ _ _) (by kernel_rfl) (by kernel_rfl) (by kernel_rfl) (.refl _) (G0 rfl) rfl rfl (.move rfl rfl) ?_
    refine WH.take 3 rfl (Pf_blind _ _ _ _ _) (by kernel_rfl) (by kernel_rfl) (by kernel_rfl) (.refl _) (G0 rfl) rfl rfl (.ix rfl ST_23 rfl rfl (by omega) (by omega) (fun _ hw hn => (hw.slf0 hS).some_ hn)) ?_
    refine WH.take 4 rfl (Pf_blind _ _ _ _ _) (by kernel_rfl) (by kernel_rfl) (by kernel_rfl) (.refl _) (G0 rfl) rfl rfl (.loadK (vs := [_, _, _, _, _, _]) rfl AG_42 rfl (fun _ hw => rdN (hw.slf0 hS) (by omega) (by omega))) ?_
    refine WH.take 5 rfl (Pf_blind _ _ _ _ _) (by kernel_rfl) (by kernel_rfl) (by kernel_rfl) (.refl _) (G0 rfl) rfl rfl (.loadK (vs := [_, _]) rfl AG_39 rfl (fun _ hw => hw.rd_blk (k := 2) 0 rfl rfl)) ?_
    refine WH.dw 6 rfl (by kernel_rfl) (G0 rfl) rfl rfl (.callv (caps := caps) rfl rfl rfl hg (fun w hw => hp _ (gx_mem (by omega) (by omega)) _ hw.below)) ?_
    rintro _ _ ⟨rfl, rfl⟩
    refine ⟨(.refl _), ?_⟩
    refine WH.take 7 rfl (Pf_blind _ _ _ _ _) (by kernel_rfl) (by kernel_rfl) (by kernel_rfl) (.refl _) (G0 rfl) rfl rfl (.lss rfl rfl rfl) ?_
    refine WH.done (by kernel_rfl) ?_
    refine WA.cond rfl (fun h7 => ?_) (fun h7 => ?_)
    · have f8 := h7
      try simp only [decide_eq_true_eq, decide_eq_false_iff_not, Bool.not_eq_true', Bool.not_eq_false', Int.not_lt, Int.not_le] at f8
      refine WA.region ?_
      refine WR.val (G0 rfl) rfl rfl (.move rfl rfl) ?_
      refine WR.val (G0 rfl) rfl rfl (.add rfl rfl rfl (by omega) (by omega)) ?_
      refine WR.val (G0 rfl) rfl rfl (.assign rfl rfl) ?_
      refine WR.nil ?_
      refine WA.mark ?_
      exact WA.roundK ((q.1 + q.2) / 2 + 1, q.2) (.cons rfl (.cons rfl (.cons rfl (.cons rfl (.cons rfl (.cons rfl (.nil _))))))) (.cons rfl (.cons rfl (.nil _))) (.refl _) ⟨by dsimp only; omega, by dsimp only; omega, fun j hj => by (rcases Nat.lt_or_ge j q.1 with h | h; exact hlo j h; exact hm j ((q.1 + q.2) / 2) (by dsimp only at hj; omega) (by omega) (by rw [← hmid]; assumption)), hhi⟩ (by dsimp only; omega)
    · have f9 := h7
      try simp only [decide_eq_true_eq, decide_eq_false_iff_not, Bool.not_eq_true', Bool.not_eq_false', Int.not_lt, Int.not_le] at f9
      refine WA.region ?_
      refine WR.val (G0 rfl) rfl rfl (.move rfl rfl) ?_
      refine WR.val (G0 rfl) rfl rfl (.assign rfl rfl) ?_
      refine WR.nil ?_
      refine WA.mark ?_
      exact WA.roundK (q.1, (q.1 + q.2) / 2) (.cons rfl (.cons rfl (.cons rfl (.cons rfl (.cons rfl (.cons rfl (.nil _))))))) (.cons rfl (.cons rfl (.nil _))) (.refl _) ⟨by dsimp only; omega, by dsimp only; omega, hlo, fun j hj hjl' hc => (by (have h9 := hm ((q.1 + q.2) / 2) j (by dsimp only at hj; omega) hjl' hc; rw [← hmid] at h9; omega))⟩ (by dsimp only; omega)
  · have f10 := h4
    try simp only [decide_eq_true_eq, decide_eq_false_iff_not, Bool.not_eq_true', Bool.not_eq_false', Int.not_lt, Int.not_le] at f10
    refine WA.exit rfl ?_
    refine WA.seq ?_
    refine WA.draws0 follows ?_
    refine WH.take 0 rfl (Pf_blind _ _ _ _ _) (by kernel_rfl) (by kernel_rfl) (by kernel_rfl) (.refl _) (G0 rfl) rfl rfl (.move rfl rfl) ?_
    refine WH.take 1 rfl (Pf_blind _ _ _ _ _) (by kernel_rfl) (by kernel_rfl) (by kernel_rfl) (.refl _) (G0 rfl) rfl rfl (.move rfl rfl) ?_
    refine WH.take 2 rfl (Pf_blind _ _ _ _ _) (by kernel_rfl) (by kernel_rfl) (by kernel_rfl) (.refl _) (G0 rfl) rfl rfl (.move rfl rfl) ?_
    refine WH.take 3 rfl (Pf_blind _ _ _ _ _) (by kernel_rfl) (by kernel_rfl) (by kernel_rfl) (.refl _) (G0 rfl) rfl rfl (.lss rfl rfl rfl) ?_
    refine WH.take 4 rfl (Pf_blind _ _ _ _ _) (by kernel_rfl) (by kernel_rfl) (by kernel_rfl) (.refl _) (G0 rfl) rfl rfl (.move rfl rfl) ?_
    refine WH.split (d := 39) rfl (fun h12 => ?_) (fun h12 => ?_)
    · have f13 := h12
      try simp only [decide_eq_true_eq, decide_eq_false_iff_not, Bool.not_eq_true', Bool.not_eq_false', Int.not_lt, Int.not_le] at f13
      refine WH.take 5 rfl (Pf_blind _ _ _ _ _) (by kernel_rfl) (by kernel_rfl) (by kernel_rfl) (.refl _) (Gt rfl rfl rfl h12) rfl rfl (.move rfl rfl) ?_
      refine WH.take 6 rfl (Pf_blind _ _ _ _ _) (by kernel_rfl) (by kernel_rfl) (by kernel_rfl) (.refl _) (Gt rfl rfl rfl h12) rfl rfl (.move rfl rfl) ?_
      refine WH.take 7 rfl (Pf_blind _ _ _ _ _) (by kernel_rfl) (by kernel_rfl) (by kernel_rfl) (.refl _) (Gt rfl rfl rfl h12) rfl rfl (.move rfl rfl) ?_
      refine WH.take 8 rfl (Pf_blind _ _ _ _ _) (by kernel_rfl) (by kernel_rfl) (by kernel_rfl) (.refl _) (Gt rfl rfl rfl h12) rfl rfl (.ix rfl ST_23 rfl rfl (by omega) (by omega) (fun _ hw hn => (hw.slf0 hS).some_ hn)) ?_
      refine WH.take 9 rfl (Pf_blind _ _ _ _ _) (by kernel_rfl) (by kernel_rfl) (by kernel_rfl) (.refl _) (Gt rfl rfl rfl h12) rfl rfl (.loadK (vs := [_, _, _, _, _, _]) rfl AG_42 rfl (fun _ hw => rdN (hw.slf0 hS) (by omega) (by omega))) ?_
      refine WH.take 10 rfl (Pf_blind _ _ _ _ _) (by kernel_rfl) (by kernel_rfl) (by kernel_rfl) (.refl _) (Gt rfl rfl rfl h12) rfl rfl (.loadK (vs := [_, _]) rfl AG_39 rfl (fun _ hw => hw.rd_blk (k := 2) 0 rfl rfl)) ?_
      refine WH.dw 11 rfl (by kernel_rfl) (Gt rfl rfl rfl h12) rfl rfl (.callv (caps := caps) rfl rfl rfl hg (fun w hw => hp _ (gx_mem (by omega) (by omega)) _ hw.below)) ?_
      rintro _ _ ⟨rfl, rfl⟩
      refine ⟨(.refl _), ?_⟩
      refine WH.take 12 rfl (Pf_blind _ _ _ _ _) (by kernel_rfl) (by kernel_rfl) (by kernel_rfl) (.refl _) (Gt rfl rfl rfl h12) rfl rfl (.eql rfl rfl rfl) ?_
      refine WH.take 13 rfl (Pf_blind _ _ _ _ _) (by kernel_rfl) (by kernel_rfl) (by kernel_rfl) (.refl _) (G0 rfl) rfl rfl (.pick_t rfl rfl h12 rfl) ?_
      refine WH.take 14 rfl (Pf_blind _ _ _ _ _) (by kernel_rfl) (by kernel_rfl) (by kernel_rfl) (.refl _) (G0 rfl) rfl rfl (.assign rfl rfl) ?_
      refine WH.take 15 rfl (Pf_blind _ _ _ _ _) (by kernel_rfl) (by kernel_rfl) (by kernel_rfl) (.refl _) (G0 rfl) rfl rfl (.assign rfl rfl) ?_
      refine WH.done (by kernel_rfl) ?_
      have hE : lbn c l = q.1 := lbn_eq (by omega) hlo (fun j h1 h2 => hhi j (by omega) h2)
      exact WA.ret2 rfl rfl rfl (List.nil_sublist _) ⟨by rw [bsf, hE]; first | (have hlt : q.1 < l.length := (by omega); simp [hlt]; done) | (have hge : ¬ q.1 < l.length := (by omega); simp [hge]; done), rfl⟩
    · have f15 := h12
      try simp only [decide_eq_true_eq, decide_eq_false_iff_not, Bool.not_eq_true', Bool.not_eq_false', Int.not_lt, Int.not_le] at f15
      refine WH.off 5 rfl (Pf_blind _ _ _ _ _) (by kernel_rfl) (by kernel_rfl) (by kernel_rfl) (.refl _) (Gf rfl rfl rfl h12) rfl rfl ?_
      refine WH.off 6 rfl (Pf_blind _ _ _ _ _) (by kernel_rfl) (by kernel_rfl) (by kernel_rfl) (.refl _) (Gf rfl rfl rfl h12) rfl rfl ?_
      refine WH.off 7 rfl (Pf_blind _ _ _ _ _) (by kernel_rfl) (by kernel_rfl) (by kernel_rfl) (.refl _) (Gf rfl rfl rfl h12) rfl rfl ?_
      refine WH.off 8 rfl (Pf_blind _ _ _ _ _) (by kernel_rfl) (by kernel_rfl) (by kernel_rfl) (.refl _) (Gf rfl rfl rfl h12) rfl rfl ?_
      refine WH.off 9 rfl (Pf_blind _ _ _ _ _) (by kernel_rfl) (by kernel_rfl) (by kernel_rfl) (.refl _) (Gf rfl rfl rfl h12) rfl rfl ?_
      refine WH.off 10 rfl (Pf_blind _ _ _ _ _) (by kernel_rfl) (by kernel_rfl) (by kernel_rfl) (.refl _) (Gf rfl rfl rfl h12) rfl rfl ?_
      refine WH.off 11 rfl (Pf_blind _ _ _ _ _) (by kernel_rfl) (by kernel_rfl) (by kernel_rfl) (.refl _) (Gf rfl rfl rfl h12) rfl rfl ?_
      refine WH.off 12 rfl (Pf_blind _ _ _ _ _) (by kernel_rfl) (by kernel_rfl) (by kernel_rfl) (.refl _) (Gf rfl rfl rfl h12) rfl rfl ?_
      refine WH.take 13 rfl (Pf_blind _ _ _ _ _) (by kernel_rfl) (by kernel_rfl) (by kernel_rfl) (.refl _) (G0 rfl) rfl rfl (.pick_f rfl rfl h12 rfl) ?_
      refine WH.take 14 rfl (Pf_blind _ _ _ _ _) (by kernel_rfl) (by kernel_rfl) (by kernel_rfl) (.refl _) (G0 rfl) rfl rfl (.assign rfl rfl) ?_
      refine WH.take 15 rfl (Pf_blind _ _ _ _ _) (by kernel_rfl) (by kernel_rfl) (by kernel_rfl) (.refl _) (G0 rfl) rfl rfl (.assign rfl rfl) ?_
      refine WH.done (by kernel_rfl) ?_
      have hE : lbn c l = q.1 := lbn_eq (by omega) hlo (fun j h1 h2 => hhi j (by omega) h2)
      exact WA.ret2 rfl rfl rfl (List.nil_sublist _) ⟨by rw [bsf, hE]; first | (have hlt : q.1 < l.length := (by omega); simp [hlt]; done) | (have hge : ¬ q.1 < l.length := (by omega); simp [hge]; done), rfl⟩
end Go.Proofs.YtpbillinpjccdaaGreat.Fc
