/- The walks of the laws' marks: texts, and rows that are marked and held. -/
import Derived.Test.YtnmknkdbeccmhaaB17
import Derived.Laws.BytesString
namespace Go.Proofs.Ytnmknkdbeccmhaa
open Go.RowKit
set_option linter.unusedSimpArgs false
set_option linter.unusedVariables false

theorem ret_str {a b : ByteArray} (h : a = b) : Ending.returned (.string a) = .returned (.string b) := by rw [h]
/-- The decimal text of a number, ahead of what is there. -/
def decT : Nat → Int → ByteArray → ByteArray
  | 0, _, s => s
  | f + 1, n, s => if 0 < n then decT f (n / 10) (ByteArray.empty.push (UInt8.ofNat (48 + n % 10).toNat) ++ s) else s
def markT (k : Int) : ByteArray := if k ≤ 0 then ⟨#[109, 48]⟩ else ⟨#[109]⟩ ++ decT k.toNat k ⟨#[]⟩
theorem decT_more : ∀ (f g : Nat) (n : Int) (s : ByteArray), n.toNat ≤ f → n.toNat ≤ g → decT f n s = decT g n s
  | 0, 0, _, _, _, _ => rfl
  | 0, g + 1, n, s, h, _ => by unfold decT; rw [if_neg (by omega)]
  | f + 1, 0, n, s, _, h => by unfold decT; rw [if_neg (by omega)]
  | f + 1, g + 1, n, s, h, k => by
    unfold decT
    split
    · exact decT_more f g _ _ (by omega) (by omega)
    · rfl
theorem decT_step {n : Int} {s : ByteArray} (h : 0 < n) : decT n.toNat n s = decT (n / 10).toNat (n / 10) (ByteArray.empty.push (UInt8.ofNat (48 + n % 10).toNat) ++ s) := by
  obtain ⟨f, hf⟩ : ∃ f, n.toNat = f + 1 := ⟨n.toNat - 1, by omega⟩
  rw [hf, decT, if_pos h]
  exact decT_more _ _ _ _ (by omega) (by omega)
theorem decT_zero {n : Int} {s : ByteArray} (h : ¬ 0 < n) : decT n.toNat n s = s := by
  have : n.toNat = 0 := by omega
  rw [this]; rfl
theorem conv1 (w : World) (z : Int) : (convert 61 9 (.slice (some ⟨w.heap.size, 0, none⟩) 1 1)).run Try.prog (w.alloc (.cells #[.int .u8 z] 5)) = .ok (.string (ByteArray.empty.push (UInt8.ofNat z.toNat))) (w.alloc (.cells #[.int .u8 z] 5)) := by
  rw [run_convert_bytes_string _ _ _ _ _ _ _ Try.underlying61 Try.underlying5 Try.underlying9]
  have hl := run_loadCells_list (P := Try.prog) (w.alloc (.cells #[.int .u8 z] 5)) ⟨w.heap.size, 0, none⟩ [.int .u8 z] (fun j v hj => by
    have := new_cells w [.int .u8 z] 5 j v hj
    exact this)
  exact run_bytesToString _ _ 1 1 [z] hl
set_option maxRecDepth 100000 in
set_option maxHeartbeats 1000000 in
theorem markText_c (k : Int) (h0 : 0 ≤ k) (h1 : k ≤ 1000000000000) (w : World) : Calls Try.prog 130 #[.int .i64 k] w fun e w' => e = .returned (.string (markT k)) ∧ Grow w w' := by
  by_cases hk : k ≤ 0
  · have HR := Lib.hid (show markT k = ⟨#[109, 48]⟩ by unfold markT; rw [if_pos hk])
    go_enter Try.func130, Try.ntmps130
    go_wp2
    go_ret
    exact ⟨ret_str HR.out.symm, Grow.refl _⟩
  · have HR := Lib.hid (show markT k = ⟨#[109]⟩ ++ decT k.toNat k ⟨#[]⟩ by unfold markT; rw [if_neg hk])
    have hcv := conv1
    go_enter Try.func130, Try.ntmps130
    go_wp2
    go_loopw [0, 3] (fun q o wr => ∃ (n : Int) (s : ByteArray), q = .int .i64 n ∧ o = .string s ∧ 0 ≤ n ∧ n ≤ 1000000000000 ∧ (s.size : Int) + n ≤ 1000000000000 ∧ Hid (decT k.toNat k ⟨#[]⟩ = decT n.toNat n s) ∧ Hid (Grow w wr)) (fun q _ _ => (intOf q).toNat)
    case atStart => exact ⟨k, _, rfl, rfl, by omega, by omega, by show ((0 : Nat) : Int) + k ≤ _; omega, rfl, Grow.refl _⟩
    case round =>
      obtain ⟨n, s, rfl, rfl, hn0, hn1, hsz, hd, hgr⟩ := hrel
      by_cases hn : 0 < n
      · have HS := Lib.hid (hd.out.trans (decT_step hn))
        have hs1 : (ByteArray.empty.push (UInt8.ofNat (48 + n % 10).toNat) ++ s).size = s.size + 1 := by rw [ByteArray.size_append]; simp; omega
        have HS1 := Lib.hid hs1
        clear hs1
        go_wp2
        go_roundw
        case rel => exact ⟨n / 10, _, rfl, rfl, by omega, by omega, by rw [HS1.out]; omega, HS.out, by unfold Hid; have hh := hgr.out; (repeat (first | with_reducible exact Grow.refl _ | with_reducible assumption | with_reducible refine Grow.drew ?_ | with_reducible refine Grow.alloc ?_ _ | (with_reducible refine Grow.set ?_ ?_ _; rotate_left; (first | (dsimp only; omega) | (simp <;> omega)))))⟩
        case measure => simp [intOf]; omega
      · have HS := Lib.hid (hd.out.trans (decT_zero hn))
        go_wp2
        go_ret
        exact ⟨ret_str (by rw [HR.out, HS.out]), hgr.out⟩
end Go.Proofs.Ytnmknkdbeccmhaa
