/- The reference's block of a key, and its texts put together: contracts. -/
import Derived.Test.YtomninikmcmmcaaDoorRs
import Derived.Test.YtomninikmcmmcaaDoorHm
import Derived.Test.YtomninikmcmmcaaDoorMark
namespace Go.Proofs.YtomninikmcmmcaaDoor.Sha
open Go Go.RowKit Go.Proofs.YtomninikmcmmcaaDoor.PRp Go.Proofs.YtomninikmcmmcaaDoor.Mark Go.Proofs.YtomninikmcmmcaaDoorW.PrintWords Go.Proofs.Sp Go.Proofs.YtomninikmcmmcaaDoor.Blk Go.Proofs.YtomninikmcmmcaaDoor.GivA
set_option linter.unusedVariables false
set_option linter.unusedSimpArgs false
theorem bytesRow_size (s : ByteArray) (cap : Nat) (h : s.size ≤ cap) : (bytesRow s cap).size = cap := by
  have e : s.data.size = s.size := rfl
  unfold bytesRow
  rw [Array.size_append, Array.size_map, Array.size_replicate, e]
  omega
/-- The row that []byte(s) lays. -/
theorem ownM_start (s : ByteArray) (w : World) (hs : s.size ≤ 140737488355328) :
    ownsRowM ((w.alloc (.cells (bytesRow s (grownCap w s.size 0 5)) 5 ((bytesRow s (grownCap w s.size 0 5)).size, (bytesRow s (grownCap w s.size 0 5)).size + 1))).drew) w.heap.size 5 1
      (.slice (some ⟨w.heap.size, 0, none⟩) s.size (grownCap w s.size 0 5)) s.data.toList.length (Lib.byteCells s.data.toList) := by
  have hge := grownCap_ge w s.size 0 5
  have hle := grownCap_le_maxLen w s.size 0 5 (by unfold maxLen; omega)
  have hsz := bytesRow_size s _ hge
  refine ⟨by rw [byteCells_length, Nat.mul_one], .inr ⟨w.heap.size, _, _, _, by rw [data_size], Nat.le_refl _, blk_new _ _, .inr (Nat.le_refl _), by rw [data_size]; exact hge, hle, by rw [hsz, Nat.mul_one], ?_⟩⟩
  rw [data_size, Nat.mul_one]
  unfold bytesRow Lib.byteCells
  rw [Array.toList_append, Array.toList_map, List.take_append_of_le_length (by rw [List.length_map, data_size]; exact Nat.le_refl _), List.take_of_length_le (by rw [List.length_map, data_size]; exact Nat.le_refl _)]
theorem ownM_conv {w : World} {B : Nat} {v : Value} {l : List UInt8} (hown : ownsRowM w B 5 1 v l.length (Lib.byteCells l)) : (convert 65 9 v).run Tryd.prog w = .ok (.string ⟨l.toArray⟩) w := by
  rcases hown.2 with ⟨rfl, h0⟩ | ⟨k, cap, cur, fz, rfl, _⟩
  · have e : l = [] := by
      have : l.length = 0 := by simpa using h0
      exact List.length_eq_zero_iff.1 this
    subst e
    exact Lib.run_convert_nil_bytes w 65 9 5 0 Tryd.underlying65 Tryd.underlying5 Tryd.underlying9
  · have hsz : (⟨l.toArray⟩ : ByteArray).size = l.length := by show l.toArray.size = _; simp
    rw [← hsz]
    refine Lib.run_convert_whole w 65 5 9 Tryd.underlying65 Tryd.underlying5 Tryd.underlying9 k 0 ⟨l.toArray⟩ (fun j hj => ?_) cap
    have hj' : j < l.length := by rw [← hsz]; exact hj
    have hc := hown.cells (g := k) rfl j (.int .u8 ((l[j]'hj').toNat : Int)) (by simp [Lib.byteCells, hj'])
    rw [Nat.zero_add, show ((⟨l.toArray⟩ : ByteArray)[j]'hj) = l[j]'hj' from rfl]
    by_cases h0 : j = 0
    · subst h0; simpa [Addr.add] using hc
    · simpa [Addr.add, h0] using hc
/-- The first bytes of a key's block. -/
def kPre (d : ByteArray) (j : Nat) : List UInt8 := d.data.toList ++ List.replicate j 0
theorem kPre_length (d : ByteArray) (j : Nat) : (kPre d j).length = d.size + j := by unfold kPre; rw [List.length_append, data_size, List.length_replicate]
theorem kPre_succ (d : ByteArray) (j : Nat) : kPre d j ++ [0] = kPre d (j + 1) := by unfold kPre; rw [List.append_assoc, ← List.replicate_succ']
theorem ownM_base {w : World} {B B' : Nat} {e : TypeId} {size : Nat} {v : Value} {n : Nat} {xs : List Value} (h : ownsRowM w B e size v n xs) (hB : B' ≤ B) : ownsRowM w B' e size v n xs := by
  refine ⟨h.1, ?_⟩
  rcases h.2 with hn | ⟨g, cap, cur, fz, hv, hb, rest⟩
  · exact .inl hn
  · exact .inr ⟨g, cap, cur, fz, hv, Nat.le_trans hB hb, rest⟩
theorem ownM_slice {w : World} {B : Nat} {e : TypeId} {size : Nat} {v : Value} {n : Nat} {xs : List Value} (h : ownsRowM w B e size v n xs) : ∃ ao cap, v = .slice ao n cap := by
  rcases h.2 with ⟨hv, h0⟩ | ⟨g, cap, cur, fz, hv, _⟩
  · exact ⟨none, 0, by rw [hv, h0]⟩
  · exact ⟨_, _, hv⟩
set_option maxHeartbeats 4000000 in
set_option maxRecDepth 100000 in
theorem refblock_calls (key : ByteArray) (w : World) (hs : key.size ≤ 549755813888) :
    Calls Tryd.prog 36 #[.string key] w fun e w' => e = .returned (.string (kBlock key)) ∧ Below w.heap.size w w' := by
  obtain ⟨i0, hi0, hz0, hz1, hz2⟩ := info_parts (P := Tryd.prog) (e := 5) (z := .int .u8 0) (size := 1) (bytes := 1) (by kernel_rfl)
  have HS := Aside0.mk (refsum_calls key w hs)
  have hkl := kOf_le key
  have HR := Aside0.mk (show kBlock key = ⟨(kPre (kOf key) (64 - (kOf key).size)).toArray⟩ by
    unfold kBlock kPre zeroB
    apply ext_list
    rw [append_list])
  have HK := Aside0.mk (show kOf key = if 64 < key.size then sha key else key from rfl)
  generalize kBlock key = res at *
  generalize kOf key = d at *
  by_cases h64 : 64 < key.size
  · rw [if_pos h64] at HK
    go_enter Tryd.func36, Tryd.ntmps36
    have hcv := fun w => run_bytes_of_string (P := Tryd.prog) w 9 65 5 d Tryd.underlying9 Tryd.underlying65 Tryd.underlying5
    go_wp2_with fail
    refine HS.out.mono ?_
    rintro e w1 ⟨rfl, hb1⟩
    rw [← HK.out]
    have G0 := Aside0.mk (ownM_base (ownM_start d w1 (by omega)) hb1.size)
    have B0 := Aside0.mk (hb1.trans ((((Below.refl _ w1).alloc (Nat.le_refl _) (.cells (bytesRow d (grownCap w1 d.size 0 5)) 5 ((bytesRow d (grownCap w1 d.size 0 5)).size, (bytesRow d (grownCap w1 d.size 0 5)).size + 1))).drew).mono hb1.size))
    clear hb1
    go_wp2_with fail
    clear hcv
    go_loopg [3] (64 - d.size) (fun k v wr => ∃ j : Nat, j + k = 64 - d.size ∧ ownsRowM wr w.heap.size 5 1 v (kPre d j).length (Lib.byteCells (kPre d j)) ∧ Below w.heap.size w wr)
    case atStart => exact ⟨0, by omega, by unfold kPre; rw [List.replicate_zero, List.append_nil]; exact G0.out, B0.out⟩
    case round =>
      obtain ⟨j, hj, hown, hB⟩ := hrel
      have hsz := hB.size
      have HB := Aside0.mk hB
      have hlen := kPre_length d j
      have hconv := ownM_conv hown
      obtain ⟨ao, cap, rfl⟩ := ownM_slice hown
      rw [hlen] at hown hconv ⊢
      have HCv := Aside0.mk hconv
      have HW := Aside0.mk hown
      clear hconv
      clear hB hlen
      by_cases hlt : j < 64 - d.size
      · have l1 : (d.size : Int) + (j : Int) < 64 := by omega
        go_wp2_with (at_builtin; refine wpList_append_ownM _ rfl _ _ 65 rfl w.heap.size 5 i0 (.int .u8 0) 1 1 Tryd.underlying65 hi0 hz0 hz1 hz2 rfl (by decide) _ _ _ rfl (hown.alloc _) ⟨wr.heap.size, 0, none⟩ 1 1 [.int .u8 0] rfl rfl ?c1 ?c2 ?c3 ?c4 ?c5 ?_)
        case c1 =>
          intro j u hj
          match j, hj with
          | 0, hj => simp at hj; subst hj; simp [Addr.add]
        case c2 => intro u hu; simp at hu; subst hu; rfl
        case c3 => unfold maxLen; omega
        case c4 => omega
        case c5 => simp; omega
        intro v' w1 hown' hgrow _
        obtain ⟨ao', cap', rfl⟩ := ownM_slice hown'
        have HO := Aside0.mk hown'
        have HG := Aside0.mk hgrow
        clear hown' hgrow hown
        go_wp2_with fail
        go_roundg (gk - 1)
        case measure => omega
        case rel =>
          refine ⟨j + 1, by omega, ?_, ?_⟩
          · have h1 := HO.out
            have e1 : Lib.byteCells (kPre d j) ++ [.int .u8 0] = Lib.byteCells (kPre d (j + 1)) := by rw [← kPre_succ]; exact byteCells_snoc (kPre d j) 0
            rw [e1] at h1
            rw [kPre_length]
            exact h1
          · exact (HB.out.alloc hsz _).grown HG.out (by simp; omega) (fun k hk => (HW.out.lt k hk).1)
      · have hje : j = 64 - d.size := by omega
        have hconv := HCv.out
        rw [show kPre d j = kPre d (64 - d.size) by rw [hje], ← HR.out] at hconv
        have l1 : (64 : Int) ≤ (d.size : Int) + (j : Int) := by omega
        clear hown hje
        go_wp2_with fail
        go_ret
        exact ⟨rfl, HB.out⟩
  · rw [if_neg h64] at HK
    obtain rfl := HK.out
    clear hs HS h64
    go_enter Tryd.func36, Tryd.ntmps36
    have hcv := fun w => run_bytes_of_string (P := Tryd.prog) w 9 65 5 d Tryd.underlying9 Tryd.underlying65 Tryd.underlying5
    have G0 := Aside0.mk (ownM_start d w (by omega))
    have B0 := Aside0.mk ((((Below.refl _ w).alloc (Nat.le_refl _) (.cells (bytesRow d (grownCap w d.size 0 5)) 5 ((bytesRow d (grownCap w d.size 0 5)).size, (bytesRow d (grownCap w d.size 0 5)).size + 1))).drew))
    have hdl : (d.size : Int) ≤ 64 := by omega
    go_wp2_with fail
    clear hcv
    go_loopg [3] (64 - d.size) (fun k v wr => ∃ j : Nat, j + k = 64 - d.size ∧ ownsRowM wr w.heap.size 5 1 v (kPre d j).length (Lib.byteCells (kPre d j)) ∧ Below w.heap.size w wr)
    case atStart => exact ⟨0, by omega, by unfold kPre; rw [List.replicate_zero, List.append_nil]; exact G0.out, B0.out⟩
    case round =>
      obtain ⟨j, hj, hown, hB⟩ := hrel
      have hsz := hB.size
      have HB := Aside0.mk hB
      have hlen := kPre_length d j
      have hconv := ownM_conv hown
      obtain ⟨ao, cap, rfl⟩ := ownM_slice hown
      rw [hlen] at hown hconv ⊢
      have HCv := Aside0.mk hconv
      have HW := Aside0.mk hown
      clear hconv
      clear hB hlen
      by_cases hlt : j < 64 - d.size
      · have l1 : (d.size : Int) + (j : Int) < 64 := by omega
        go_wp2_with (at_builtin; refine wpList_append_ownM _ rfl _ _ 65 rfl w.heap.size 5 i0 (.int .u8 0) 1 1 Tryd.underlying65 hi0 hz0 hz1 hz2 rfl (by decide) _ _ _ rfl (hown.alloc _) ⟨wr.heap.size, 0, none⟩ 1 1 [.int .u8 0] rfl rfl ?c1 ?c2 ?c3 ?c4 ?c5 ?_)
        case c1 =>
          intro j u hj
          match j, hj with
          | 0, hj => simp at hj; subst hj; simp [Addr.add]
        case c2 => intro u hu; simp at hu; subst hu; rfl
        case c3 => unfold maxLen; omega
        case c4 => omega
        case c5 => simp; omega
        intro v' w1 hown' hgrow _
        obtain ⟨ao', cap', rfl⟩ := ownM_slice hown'
        have HO := Aside0.mk hown'
        have HG := Aside0.mk hgrow
        clear hown' hgrow hown
        go_wp2_with fail
        go_roundg (gk - 1)
        case measure => omega
        case rel =>
          refine ⟨j + 1, by omega, ?_, ?_⟩
          · have h1 := HO.out
            have e1 : Lib.byteCells (kPre d j) ++ [.int .u8 0] = Lib.byteCells (kPre d (j + 1)) := by rw [← kPre_succ]; exact byteCells_snoc (kPre d j) 0
            rw [e1] at h1
            rw [kPre_length]
            exact h1
          · exact (HB.out.alloc hsz _).grown HG.out (by simp; omega) (fun k hk => (HW.out.lt k hk).1)
      · have hje : j = 64 - d.size := by omega
        have hconv := HCv.out
        rw [show kPre d j = kPre d (64 - d.size) by rw [hje], ← HR.out] at hconv
        have l1 : (64 : Int) ≤ (d.size : Int) + (j : Int) := by omega
        clear hown hje
        go_wp2_with fail
        go_ret
        exact ⟨rfl, HB.out⟩
end Go.Proofs.YtomninikmcmmcaaDoor.Sha
