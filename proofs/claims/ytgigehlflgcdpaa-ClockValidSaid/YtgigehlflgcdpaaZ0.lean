/- The law on valid controls and new clocks where there is no period: its walk. No condition. -/
import Derived.Test.YtgigehlflgcdpaaZ1
set_option linter.unusedVariables false
set_option linter.unusedSimpArgs false
namespace Go.Proofs.Ytgigehlflgcdpaa
open Go.RowKit
set_option maxHeartbeats 4000000 in
set_option maxRecDepth 100000 in
theorem valid_zero_n {w : World} (k : Int) (_x : True) (pcap : Nat) (now : Int) :
    Calls Try.prog 3 #[.agg #[.int .i64 k, .slice none 0 pcap], .int .i64 now] w fun e w' => e = .returned (.bool true) ∧ Below w.heap.size w w' := by
  have hval2 : ∀ (o : Option Addr) (cap : Nat) W, Hid (Pure 10 #[.agg #[.int .i64 k, .slice o 0 cap]] W (.bool false)) := by
    intro o cap W
    have h := valid_nil (w := W) k o cap
    rw [show vld k [] = false by simp [vld, hdr]] at h
    exact Lib.hid h
  have hval3 : ∀ (o : Option Addr) (cap : Nat) W, Hid (Pure 11 #[.agg #[.int .i64 k, .slice o 0 cap]] W (.bool false)) := by
    intro o cap W
    have h := lvalid_nil (w := W) k o cap
    rw [show vld k [] = false by simp [vld, hdr]] at h
    exact Lib.hid h
  go_enter Try.func3, Try.ntmps3
  go_upto_region 3 with (fail)
  go_cut [5] (fun p wx => ∃ ob, p = .pointer (some ⟨ob, 0, none⟩) ∧ Below w.heap.size w wx ∧ wx.heap[ob]? = some (.cells #[.int .i64 k, .slice none 0 0] 25 (0, 0)) ∧ wx.heap[w.heap.size]? = some (.cells #[.int .i64 k, .slice none 0 pcap] 25 (0, 0)))
  case first =>
    go_region
    all_goals
      go_wp2_with fail
      go_meet
      refine ⟨w.heap.size + 1, by simp, ?_, ?_, ?_⟩
      · repeat (first | exact Below.refl _ _ | (with_reducible apply Below.drew) | (refine Below.alloc ?_ (by first | omega | (simp; done) | (simp; omega)) _) | (refine Below.setCell ?_ (by first | omega | (simp; done) | (simp; omega)) _))
      · repeat (with_reducible first | apply blk_drew | (refine blk_new ?_ _; simp; done))
      · repeat (with_reducible first | apply blk_drew | (refine blk_new ?_ _; simp; done) | apply blk_alloc)
  case rest =>
    obtain ⟨ob, rfl, hB, hO, hX⟩ := hcut
    have c0 := cell_of hO 0 (.int .i64 k) rfl
    have c1 := cell_of hO 1 (.slice none 0 0) rfl
    go_wp2_with fail
    refine (new_nil k none 0).mono ?_
    rintro e W ⟨rfl, hW⟩
    replace hX := below_blk hW hX
    replace hO := below_blk hW hO
    replace hB := hB.trans (hW.mono hB.size)
    clear c0 c1 hW
    go_wp2_with fail
    have hl0 : w.heap.size < W.heap.size := (Array.getElem?_eq_some_iff.1 hX).1
    have hlo : ob < W.heap.size := (Array.getElem?_eq_some_iff.1 hO).1
    have y0 := fun x : Ext W.heap.size W => cell_of ((x.2.block _ hl0).trans hX) 0 (.int .i64 k) rfl
    have y1 := fun x : Ext W.heap.size W => cell_of ((x.2.block _ hl0).trans hX) 1 (.slice none 0 pcap) rfl
    have o0 := fun x : Ext W.heap.size W => cell_of ((x.2.block _ hlo).trans hO) 0 (.int .i64 k) rfl
    have o1 := fun x : Ext W.heap.size W => cell_of ((x.2.block _ hlo).trans hO) 1 (.slice none 0 0) rfl
    have hC2 := fun (o : Option Addr) (cap : Nat) (q : Ext W.heap.size W) => hval2 o cap q.1
    have hC3 := fun (o : Option Addr) (cap : Nat) (q : Ext W.heap.size W) => hval3 o cap q.1
    refine ext_region (by kernel_rfl) (by kernel_rfl) ?_
    repeat (go_big_quiet_step (first | (go_at_call 10; exact Pure.ext (Nat.le_refl _) (Hid.out (hC2 _ _ _))) | (go_at_call 11; exact Pure.ext (Nat.le_refl _) (Hid.out (hC3 _ _ _)))))
    refine wpQuiet_nil ?_
    rintro _ ⟨⟨V, hV⟩, rfl⟩
    clear y0 y1 o0 o1 hval2 hC2 hC3
    have hX2 := below_blk hV hX
    have hB2 := hB.trans (hV.mono hB.size)
    have z0 := cell_of hX2 0 (.int .i64 k) rfl
    have z1 := cell_of hX2 1 (.slice none 0 pcap) rfl
    go_wp2_with fail
    refine (hval3 _ _ _).out.mono ?_
    rintro e W3 ⟨rfl, hW3⟩
    go_wp2_with fail
    refine (known_c _).mono ?_
    rintro e W4 ⟨rfl, hk⟩
    go_wp2
    go_ret
    exact ⟨rfl, hB2.trans ((hW3.trans (hk.mono hW3.size)).mono hB2.size)⟩
set_option maxHeartbeats 4000000 in
set_option maxRecDepth 100000 in
theorem valid_zero_s {w : World} (k : Int) (a : Addr) (pcap : Nat) (now : Int) :
    Calls Try.prog 3 #[.agg #[.int .i64 k, .slice (some a) 0 pcap], .int .i64 now] w fun e w' => e = .returned (.bool true) ∧ Below w.heap.size w w' := by
  have hval2 : ∀ (o : Option Addr) (cap : Nat) W, Hid (Pure 10 #[.agg #[.int .i64 k, .slice o 0 cap]] W (.bool false)) := by
    intro o cap W
    have h := valid_nil (w := W) k o cap
    rw [show vld k [] = false by simp [vld, hdr]] at h
    exact Lib.hid h
  have hval3 : ∀ (o : Option Addr) (cap : Nat) W, Hid (Pure 11 #[.agg #[.int .i64 k, .slice o 0 cap]] W (.bool false)) := by
    intro o cap W
    have h := lvalid_nil (w := W) k o cap
    rw [show vld k [] = false by simp [vld, hdr]] at h
    exact Lib.hid h
  go_enter Try.func3, Try.ntmps3
  go_upto_region 3 with (fail)
  go_cut [5] (fun p wx => ∃ ob, p = .pointer (some ⟨ob, 0, none⟩) ∧ Below w.heap.size w wx ∧ wx.heap[ob]? = some (.cells #[.int .i64 k, .slice none 0 0] 25 (0, 0)) ∧ wx.heap[w.heap.size]? = some (.cells #[.int .i64 k, .slice (some a) 0 pcap] 25 (0, 0)))
  case first =>
    go_region
    all_goals
      go_wp2_with fail
      go_meet
      refine ⟨w.heap.size + 1, by simp, ?_, ?_, ?_⟩
      · repeat (first | exact Below.refl _ _ | (with_reducible apply Below.drew) | (refine Below.alloc ?_ (by first | omega | (simp; done) | (simp; omega)) _) | (refine Below.setCell ?_ (by first | omega | (simp; done) | (simp; omega)) _))
      · repeat (with_reducible first | apply blk_drew | (refine blk_new ?_ _; simp; done))
      · repeat (with_reducible first | apply blk_drew | (refine blk_new ?_ _; simp; done) | apply blk_alloc)
  case rest =>
    obtain ⟨ob, rfl, hB, hO, hX⟩ := hcut
    have c0 := cell_of hO 0 (.int .i64 k) rfl
    have c1 := cell_of hO 1 (.slice none 0 0) rfl
    go_wp2_with fail
    refine (new_nil k none 0).mono ?_
    rintro e W ⟨rfl, hW⟩
    replace hX := below_blk hW hX
    replace hO := below_blk hW hO
    replace hB := hB.trans (hW.mono hB.size)
    clear c0 c1 hW
    go_wp2_with fail
    have hl0 : w.heap.size < W.heap.size := (Array.getElem?_eq_some_iff.1 hX).1
    have hlo : ob < W.heap.size := (Array.getElem?_eq_some_iff.1 hO).1
    have y0 := fun x : Ext W.heap.size W => cell_of ((x.2.block _ hl0).trans hX) 0 (.int .i64 k) rfl
    have y1 := fun x : Ext W.heap.size W => cell_of ((x.2.block _ hl0).trans hX) 1 (.slice (some a) 0 pcap) rfl
    have o0 := fun x : Ext W.heap.size W => cell_of ((x.2.block _ hlo).trans hO) 0 (.int .i64 k) rfl
    have o1 := fun x : Ext W.heap.size W => cell_of ((x.2.block _ hlo).trans hO) 1 (.slice none 0 0) rfl
    have hC2 := fun (o : Option Addr) (cap : Nat) (q : Ext W.heap.size W) => hval2 o cap q.1
    have hC3 := fun (o : Option Addr) (cap : Nat) (q : Ext W.heap.size W) => hval3 o cap q.1
    refine ext_region (by kernel_rfl) (by kernel_rfl) ?_
    repeat (go_big_quiet_step (first | (go_at_call 10; exact Pure.ext (Nat.le_refl _) (Hid.out (hC2 _ _ _))) | (go_at_call 11; exact Pure.ext (Nat.le_refl _) (Hid.out (hC3 _ _ _)))))
    refine wpQuiet_nil ?_
    rintro _ ⟨⟨V, hV⟩, rfl⟩
    clear y0 y1 o0 o1 hval2 hC2 hC3
    have hX2 := below_blk hV hX
    have hB2 := hB.trans (hV.mono hB.size)
    have z0 := cell_of hX2 0 (.int .i64 k) rfl
    have z1 := cell_of hX2 1 (.slice (some a) 0 pcap) rfl
    go_wp2_with fail
    refine (hval3 _ _ _).out.mono ?_
    rintro e W3 ⟨rfl, hW3⟩
    go_wp2_with fail
    refine (known_c _).mono ?_
    rintro e W4 ⟨rfl, hk⟩
    go_wp2
    go_ret
    exact ⟨rfl, hB2.trans ((hW3.trans (hk.mono hW3.size)).mono hB2.size)⟩
theorem valid_law {w : World} {k : Int} {ps : List Per} {po : Option Addr} {pn : Nat} (pcap : Nat) (now : Int) (hC : CtlArg w k ps po pn) :
    Calls Try.prog 3 #[.agg #[.int .i64 k, .slice po pn pcap], .int .i64 now] w fun e w' => e = .returned (.bool true) ∧ Below w.heap.size w w' := by
  by_cases hn : 9 < pn
  · exact valid_many k po pn pcap now hn
  · obtain ⟨hl, h⟩ := hC
    rcases Nat.eq_zero_or_pos pn with h0 | hp
    · subst h0
      cases po with
      | none => exact valid_zero_n k trivial pcap now
      | some a => exact valid_zero_s k a pcap now
    · rcases h with h | ⟨pb, off, rfl, hq⟩
      · omega
      · exact valid_some k ps pb off pcap pn now hq hl hp (by omega)
end Go.Proofs.Ytgigehlflgcdpaa
