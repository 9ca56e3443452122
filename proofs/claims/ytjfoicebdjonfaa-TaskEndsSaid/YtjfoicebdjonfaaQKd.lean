/- The package task: slices.Delete of one need, to the machine. No condition but bounds of lengths. -/
import Derived.Test.YtjfoicebdjonfaaQKb
import Derived.Test.YtjfoicebdjonfaaQDel
import Derived.Test.YtjfoicebdjonfaaQb2
set_option linter.unusedSectionVars false
set_option linter.unusedVariables false
set_option linter.unusedSimpArgs false
set_option linter.deprecated false
namespace Go.Proofs.Ytjfoicebdjonfaa
open Go.RowKit Go.Cx Go.Am Go.Tsk
theorem delete_am (l : List (Int × Bool)) (k : Nat) (hk : k < l.length) (_ : l.length ≤ 1000000) : ACalls E0 78 [.hs 0 2 0 l.length, .v (.int .i64 (k : Int)), .v (.int .i64 ((k + 1 : Nat) : Int))] [some (.row true 2 (cels l))] fun r H' => r = .hs 0 2 0 (l.length - 1) ∧ H' = [some (.row true 2 (cels (l.eraseIdx k)))] := by
  refine acalls_raw Try.func78 rfl (by kernel_rfl) fun w M vs hG hv => ?_
  unfold VRt VRt VRt VRt at hv
  obtain ⟨v0, r0, rfl, h0, v1, r1, rfl, h1, v2, r2, rfl, h2, rfl⟩ := hv
  unfold VR at h0 h1 h2
  subst h1 h2
  obtain ⟨_, ao, cap, rfl, c1, c2, c3, c4⟩ := h0
  obtain ⟨b, b1, rfl, b3⟩ : ∃ b, M.blk 0 = some b ∧ ao = some ⟨b, 0 * 2, none⟩ ∧ (0 + cap) * 2 ≤ M.bsz 0 := by
    rcases c4 with ⟨c4, _⟩ | ⟨c4, _⟩ | c4
    · omega
    · omega
    · exact c4
  rw [Nat.zero_mul]
  rcases hG.blks 0 _ rfl with ⟨q1, _⟩ | ⟨b', cur, e, fr, us, q1, q2, q3, q4, q5, q6, _⟩
  · rw [b1] at q1; cases q1
  rw [b1] at q1
  cases q1
  have hul := VRss.len q5
  rw [cels_len] at hul
  have hus : us = cur.toList.take (l.length * 2) := by rw [← hul, q6]
  have hle : us.length ≤ cur.toList.length := by rw [← q6]; exact List.length_take_le' _ _
  have hcsz : cur.toList.length = cur.size := Array.length_toList
  have hcap : cap * 2 ≤ cur.size := by omega
  refine (delete_raw b l.length cap k cur e fr w q2 q3 hk c1 hcap (by simp only [maxLen] at c2; omega) (by rw [← hus]; exact VRss.one q5)).mono ?_
  rintro ed w' ⟨rfl, rfl⟩
  rw [← hus]
  have hnl : (us.drop ((k + 1) * 2)).length = (l.length - (k + 1)) * 2 := by simp; omega
  have e1 := setCells_setRow (us.drop ((k + 1) * 2)) (k * 2) w.drew cur q2 (by omega)
  rw [e1]
  obtain ⟨C1, hC1⟩ : ∃ C1 : Array Value, C1 = (cur.toList.take (k * 2) ++ us.drop ((k + 1) * 2) ++ cur.toList.drop (k * 2 + (us.drop ((k + 1) * 2)).length)).toArray := ⟨_, rfl⟩
  rw [← hC1]
  have hC1s : C1.size = cur.size := by rw [hC1]; simp; omega
  have e2 := setCells_setRow [Value.int .i64 0, Value.bool false] ((l.length - 1) * 2) (w.drew.setRow b C1) C1 (setRow_heap w.drew b cur C1 e fr q2) (by simp; omega)
  rw [e2, setRow_setRow]
  obtain ⟨C2, hC2⟩ : ∃ C2 : Array Value, C2 = (C1.toList.take ((l.length - 1) * 2) ++ [Value.int .i64 0, Value.bool false] ++ C1.toList.drop ((l.length - 1) * 2 + [Value.int .i64 0, Value.bool false].length)).toArray := ⟨_, rfl⟩
  rw [← hC2]
  have hC2s : C2.size = cur.size := by rw [hC2]; simp; omega
  have hG1 : Gam E0.gl M w.drew [some (.row true 2 (cels l))] := hG.other (grown_drew w) (by simp) (by simp)
  have hW := Gam.write (E := E0) (B' := .row true 2 (cels (l.eraseIdx k))) (cur' := C2) hG1 (r := 0) rfl rfl b1 q2 (fun _ _ k3 hh => by
    refine .inr ⟨b, C2, e, fr, us.take (k * 2) ++ us.drop ((k + 1) * 2), b1, hh, by rw [hC2s]; exact q3, by rw [hC2s]; exact q4, k3 ?_, ?_, fun h => by cases h⟩
    · have q5' : VRss M [some (Blk.row true 2 (cels l))].length w.drew 2 (cels l) us := VRss.mono (M := M) (M' := M) (n := 1) (w := w) (w' := w.drew) (fun _ h => h) (fun _ _ => rfl) (Nat.le_refl _) (fun _ _ => ⟨rfl, rfl⟩) q5
      have := VRss.append (VRss.take k q5') (VRss.drop (k + 1) q5')
      rw [cels_take, cels_drop, cels_app, ← List.eraseIdx_eq_take_drop_succ] at this
      exact this
    · have hl2 : (us.take (k * 2) ++ us.drop ((k + 1) * 2)).length = (l.length - 1) * 2 := by simp; omega
      rw [hl2]
      have h3 : C2.toList.take ((l.length - 1) * 2) = C1.toList.take ((l.length - 1) * 2) := by
        rw [hC2]
        simp only [List.append_assoc]
        rw [List.take_append_of_le_length (by simp; omega), List.take_take, Nat.min_self]
      have h4 : C1.toList.take ((l.length - 1) * 2) = cur.toList.take (k * 2) ++ us.drop ((k + 1) * 2) := by
        rw [hC1]
        have : (cur.toList.take (k * 2) ++ us.drop ((k + 1) * 2)).length = (l.length - 1) * 2 := by simp; omega
        rw [← this]
        exact List.take_left
      rw [h3, h4, hus, List.take_take, Nat.min_eq_left (by omega)])
  refine ⟨_, _, _, M, rfl, ⟨rfl, rfl⟩, hW.1, ?_, ext_drew.trans hW.2⟩
  unfold VR
  exact ⟨Nat.zero_lt_one, _, cap, rfl, by omega, c2, c3, .inr (.inr ⟨b, b1, by simp, b3⟩)⟩
end Go.Proofs.Ytjfoicebdjonfaa
