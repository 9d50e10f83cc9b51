/- Clocks of the own call, and the examples as numbers. Conditions: as in each theorem. -/
import Derived.Test.YtgigehlflgcdpaaP
set_option linter.unusedVariables false
set_option linter.unusedSimpArgs false
namespace Go.Proofs.Ytgigehlflgcdpaa
-- the chapter's examples
open Go.RowKit
/-- a call that writes a clock of the call's own -/
def Acts (f : FuncId) (args : Array Value) (lo hi : Nat) (w : World) (b : Nat) (L : Ctl) (r : Ck × Int) : Prop :=
  Calls Try.prog f args w fun e w' => e = .returned (.int .i64 r.2) ∧ Own lo hi w' b L r.1 ∧ w.grownBy w' (some b)
theorem Writes.acts {f : FuncId} {args : Array Value} {lo hi : Nat} {w : World} {b : Nat} {L : Ctl} {c : Ck} {r : Ck × Int} (h : Own lo hi w b L c) (hW : Writes f args w b L r) : Acts f args lo hi w b L r :=
  Calls.mono hW fun _ _ ⟨he, hc, hg⟩ => ⟨he, h.row hc hg, hg⟩
section
variable {lo hi : Nat} {w : World} {b : Nat} {L : Ctl} {c : Ck}
theorem start_o (now : Int) (h : Own lo hi w b L c) (hI : Inv L c) : Acts 16 #[.pointer (some ⟨b, 0, none⟩), .int .i64 now] lo hi w b L (c.start L now) := (start_c now h.clk h.ctl hI).acts h
theorem stop_o (now : Int) (h : Own lo hi w b L c) (hI : Inv L c) : Acts 18 #[.pointer (some ⟨b, 0, none⟩), .int .i64 now] lo hi w b L (c.stop now) := (stop_c now h.clk hI).acts h
theorem press_o (now : Int) (h : Own lo hi w b L c) (hI : Inv L c) (hG : Good L) : Acts 17 #[.pointer (some ⟨b, 0, none⟩), .int .i64 now] lo hi w b L (c.press L now) := (press_c now h.clk h.ctl hI hG).acts h
theorem add_o (s t : Int) (h : Own lo hi w b L c) (hI : Inv L c) : Acts 25 #[.pointer (some ⟨b, 0, none⟩), .int .i64 s, .int .i64 t] lo hi w b L (c.add s t) := (add_c s t h.clk hI).acts h
end
set_option maxHeartbeats 400000 in
theorem made_c {w : World} (k : Int) (ps : List Per) (n pb off cap : Nat) (hP : PerAt w ps pb off) (hv : vld k ps = true) (hn : ps.length = n) :
    Calls Try.prog 26 #[.int .i64 k, .slice (some ⟨pb, off, none⟩) n cap] w fun e w' => ∃ b L, e = .returned (.pointer (some ⟨b, 0, none⟩)) ∧ L.k = k ∧ L.ps = ps ∧
      Own w.heap.size w'.heap.size w' b L (Ck.new (ps.getD 0 ⟨0, 0, 0⟩).time) ∧ Below w.heap.size w w' := by
  subst hn
  have hc := Lib.hid (new_c k ps pb off cap hP hv)
  clear hP hv
  go_enter Try.func26, Try.ntmps26
  go_wp2_with fail
  refine hc.out.mono ?_
  rintro e V ⟨b, L, rfl, h1, h2, hO, hB⟩
  go_wp2
  go_ret
  exact ⟨b, L, rfl, h1, h2, hO, hB⟩
set_option maxHeartbeats 400000 in
theorem left_t {w : World} {b : Nat} {L : Ctl} {c : Ck} (s : Bool) (si now want : Int) (h : ClkAt w b L c) (hL : CtlAt w L) (hI : Inv L c) (hs : sideI s = si)
    (hv : c.leftV L s now = .tuple #[.int .i64 want, .int .i64 0]) : Quiet 27 #[.pointer (some ⟨b, 0, none⟩), .int .i64 si, .int .i64 now, .int .i64 want] w (.bool true) := by
  subst hs
  have hc := Lib.hid (left_c s now h hL hI)
  rw [hv] at hc
  clear hv
  unfold Quiet
  go_enter Try.func27, Try.ntmps27
  go_wp2_with fail
  refine (hc.out).mono ?_
  rintro e w' ⟨rfl, n, rfl⟩
  go_wp2
  go_ret
  exact ⟨rfl, _, rfl⟩

def psC : List Per := [⟨2, 10000, 1000⟩, ⟨0, 5000, 0⟩]
def psD : List Per := [⟨0, 1000, 300⟩]
def kc1 : Ck := ⟨⟨10000, 0, 0, 0⟩, ⟨10000, 0, 0, 0⟩, false, 0, 0, 0, true⟩
def kc2 : Ck := ⟨⟨7000, 1, 0, 1⟩, ⟨10000, 0, 0, 0⟩, true, 0, 4000, 4000, true⟩
def kc3 : Ck := ⟨⟨7000, 1, 0, 1⟩, ⟨10000, 1, 0, 1⟩, false, 0, 5000, 5000, true⟩
def kc4 : Ck := ⟨⟨12000, 2, 1, 0⟩, ⟨10000, 1, 0, 1⟩, true, 0, 6000, 6000, true⟩
def kd1 : Ck := ⟨⟨1000, 0, 0, 0⟩, ⟨1000, 0, 0, 0⟩, false, 0, 0, 0, true⟩
def kf2 : Ck := ⟨⟨1000, 1, 0, 1⟩, ⟨1000, 0, 0, 0⟩, true, 0, 200, 200, true⟩
def kf3 : Ck := ⟨⟨1000, 1, 0, 1⟩, ⟨800, 1, 0, 1⟩, false, 0, 700, 700, true⟩
section
variable {L : Ctl}
theorem ev_c1 (hk : L.k = 1) (hp : L.ps = psC) : (Ck.new 10000).start L 0 = (kc1, 0) := by
  obtain ⟨cb, pb, cap, k, ps⟩ := L
  dsimp only at hk hp
  subst hk
  subst hp
  kernel_rfl
theorem ev_c2 (hk : L.k = 1) (hp : L.ps = psC) : kc1.press L 4000 = (kc2, 0) := by
  obtain ⟨cb, pb, cap, k, ps⟩ := L
  dsimp only at hk hp
  subst hk
  subst hp
  kernel_rfl
theorem ev_c3 (hk : L.k = 1) (hp : L.ps = psC) : kc2.press L 5000 = (kc3, 0) := by
  obtain ⟨cb, pb, cap, k, ps⟩ := L
  dsimp only at hk hp
  subst hk
  subst hp
  kernel_rfl
theorem ev_c4 (hk : L.k = 1) (hp : L.ps = psC) : kc3.press L 6000 = (kc4, 0) := by
  obtain ⟨cb, pb, cap, k, ps⟩ := L
  dsimp only at hk hp
  subst hk
  subst hp
  kernel_rfl
theorem ev_d1 (hk : L.k = 2) (hp : L.ps = psD) : (Ck.new 1000).start L 0 = (kd1, 0) := by
  obtain ⟨cb, pb, cap, k, ps⟩ := L
  dsimp only at hk hp
  subst hk
  subst hp
  kernel_rfl
theorem ev_d2 (hk : L.k = 2) (hp : L.ps = psD) : kd1.press L 1300 = (kd1, 410) := by
  obtain ⟨cb, pb, cap, k, ps⟩ := L
  dsimp only at hk hp
  subst hk
  subst hp
  kernel_rfl
theorem ev_f1 (hk : L.k = 3) (hp : L.ps = psD) : (Ck.new 1000).start L 0 = (kd1, 0) := by
  obtain ⟨cb, pb, cap, k, ps⟩ := L
  dsimp only at hk hp
  subst hk
  subst hp
  kernel_rfl
theorem ev_f2 (hk : L.k = 3) (hp : L.ps = psD) : kd1.press L 200 = (kf2, 0) := by
  obtain ⟨cb, pb, cap, k, ps⟩ := L
  dsimp only at hk hp
  subst hk
  subst hp
  kernel_rfl
theorem ev_f3 (hk : L.k = 3) (hp : L.ps = psD) : kf2.press L 700 = (kf3, 0) := by
  obtain ⟨cb, pb, cap, k, ps⟩ := L
  dsimp only at hk hp
  subst hk
  subst hp
  kernel_rfl
theorem ev_l1 (hk : L.k = 1) (hp : L.ps = psC) : kc2.leftV L false 4000 = .tuple #[.int .i64 7000, .int .i64 0] := by
  obtain ⟨cb, pb, cap, k, ps⟩ := L
  dsimp only at hk hp
  subst hk
  subst hp
  kernel_rfl
theorem ev_l2 (hk : L.k = 1) (hp : L.ps = psC) : kc4.leftV L false 6000 = .tuple #[.int .i64 12000, .int .i64 0] := by
  obtain ⟨cb, pb, cap, k, ps⟩ := L
  dsimp only at hk hp
  subst hk
  subst hp
  kernel_rfl
theorem ev_l3 (hk : L.k = 2) (hp : L.ps = psD) : kd1.leftV L false 300 = .tuple #[.int .i64 1000, .int .i64 0] := by
  obtain ⟨cb, pb, cap, k, ps⟩ := L
  dsimp only at hk hp
  subst hk
  subst hp
  kernel_rfl
theorem ev_l4 (hk : L.k = 2) (hp : L.ps = psD) : kd1.leftV L false 301 = .tuple #[.int .i64 999, .int .i64 0] := by
  obtain ⟨cb, pb, cap, k, ps⟩ := L
  dsimp only at hk hp
  subst hk
  subst hp
  kernel_rfl
theorem ev_g1 (hk : L.k = 2) (hp : L.ps = psD) : kd1.flag L 1299 = .tuple #[.bool false, .int .i64 0] := by
  obtain ⟨cb, pb, cap, k, ps⟩ := L
  dsimp only at hk hp
  subst hk
  subst hp
  kernel_rfl
theorem ev_g2 (hk : L.k = 2) (hp : L.ps = psD) : kd1.flag L 1300 = .tuple #[.bool true, .int .i64 0] := by
  obtain ⟨cb, pb, cap, k, ps⟩ := L
  dsimp only at hk hp
  subst hk
  subst hp
  kernel_rfl
theorem ev_l5 (hk : L.k = 3) (hp : L.ps = psD) : kf2.leftV L false 200 = .tuple #[.int .i64 1000, .int .i64 0] := by
  obtain ⟨cb, pb, cap, k, ps⟩ := L
  dsimp only at hk hp
  subst hk
  subst hp
  kernel_rfl
theorem ev_l6 (hk : L.k = 3) (hp : L.ps = psD) : kf3.leftV L true 700 = .tuple #[.int .i64 800, .int .i64 0] := by
  obtain ⟨cb, pb, cap, k, ps⟩ := L
  dsimp only at hk hp
  subst hk
  subst hp
  kernel_rfl
theorem good_c (hk : L.k = 1) (hp : L.ps = psC) : Good L := by
  obtain ⟨cb, pb, cap, k, ps⟩ := L
  dsimp only at hk hp
  subst hk
  subst hp
  show vld 1 psC = true
  decide
theorem good_d (hk : L.k = 2) (hp : L.ps = psD) : Good L := by
  obtain ⟨cb, pb, cap, k, ps⟩ := L
  dsimp only at hk hp
  subst hk
  subst hp
  show vld 2 psD = true
  decide
theorem good_f (hk : L.k = 3) (hp : L.ps = psD) : Good L := by
  obtain ⟨cb, pb, cap, k, ps⟩ := L
  dsimp only at hk hp
  subst hk
  subst hp
  show vld 3 psD = true
  decide
end
theorem vld_c : vld 1 psC = true := by decide
theorem vld_d : vld 2 psD = true := by decide
theorem vld_f : vld 3 psD = true := by decide
end Go.Proofs.Ytgigehlflgcdpaa
