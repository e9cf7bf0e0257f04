/- The contract of slices.Repeat at integers. -/
import Derived.Laws.CopyOwn
import Derived.Deep.RegionLaw
import Derived.Test.YtoopgdchiljmiaaGreatDoorShelfM
import Derived.Test.YtoopgdchiljmiaaGreatDoorChecked
import Derived.Test.YtoopgdchiljmiaaGreatDoorLib
set_option linter.unusedVariables false
set_option linter.unusedSimpArgs false
namespace Go.Proofs.YtoopgdchiljmiaaGreatDoor
open Go.RowKit Go.Lib

theorem infoIntK : (Tryz.prog.info? 3).map (fun i => (i.zero, i.size, i.bytes)) = some (some (.int .i64 0), 1, 8) := by kernel_rfl

set_option maxHeartbeats 1000000 in
theorem own_full {w : World} {base n g : Nat} {e : TypeId} {xs : List Value} (h : w.ownsRow base e 1 (.slice (some ⟨g, 0, none⟩) n n) n xs) : Blk w g e xs.toArray := by
  obtain ⟨h1, h2⟩ := h
  rcases h2 with ⟨h2, _⟩ | ⟨g', cap, cur, hv, hg, hh, hn, hcap, hsz, htk⟩
  · exact absurd h2 (by simp)
  · injection hv with e1 e2 e3
    injection e1 with e1
    injection e1 with e1
    subst e1 e3
    have : cur = xs.toArray := by
      apply Array.toList_inj.1
      rw [← htk, List.take_of_length_le (by simp; omega)]
    unfold Blk
    rw [hh, this]
theorem made_int (n : Nat) : (madeCells (Value.int .i64 0).cells (n * 1)).toList = List.replicate n (Value.int .i64 0) := by
  rw [List.eq_replicate_iff]
  refine ⟨by simp [madeCells], fun x hx => ?_⟩
  obtain ⟨i, hi⟩ := List.getElem?_of_mem hx
  simp [madeCells, Value.cells] at hi
  obtain ⟨a, ha, rfl⟩ := hi
  simp [Nat.mod_one]
theorem splice_rep (n k m : Nat) (b : Int) (h : k + m ≤ n) : splice (List.replicate k (Value.int .i64 b) ++ List.replicate (n - k) (Value.int .i64 0)) k (List.replicate m (Value.int .i64 b)) =
    List.replicate (k + m) (Value.int .i64 b) ++ List.replicate (n - (k + m)) (Value.int .i64 0) := by
  unfold splice
  rw [List.take_append_of_le_length (by simp), List.take_of_length_le (by simp), List.length_replicate, List.drop_append, List.drop_of_length_le (by simp), List.nil_append, List.length_replicate,
    List.drop_replicate, ← List.replicate_append_replicate, List.append_assoc, show n - k - (k + m - k) = n - (k + m) by omega]

theorem rep_cell {w w1 : World} {ad : Addr} {b : Int} {n j : Nat} {v : Value} (hb : Below w.heap.size w w1) (hc : w.cell? ad = some (.int .i64 b)) (hj : (List.replicate (min 1 n) (Value.int .i64 b))[j]? = some v) : w1.cell? (ad.add j) = some v := by
  obtain ⟨h1, h2⟩ := List.getElem?_eq_some_iff.1 hj
  have h0 : j = 0 := by simp at h1; omega
  subst h0
  rw [List.getElem_replicate] at h2
  rw [← h2, show ad.add 0 = ad by simp [Addr.add]]
  exact cell_ext hc hb

theorem rep_cell2 {w : World} {g n k j : Nat} {t : TypeId} {b : Int} {v : Value} (h : Blk w g t (List.replicate k (Value.int .i64 b) ++ List.replicate (n - k) (Value.int .i64 0)).toArray) (hj : (List.replicate (min k (n - k)) (Value.int .i64 b))[j]? = some v) : w.cell? ((⟨g, 0, none⟩ : Addr).add j) = some v := by
  obtain ⟨h1, h2⟩ := List.getElem?_eq_some_iff.1 hj
  rw [List.getElem_replicate] at h2
  rw [← h2]
  have e1 : (⟨g, 0, none⟩ : Addr).add j = ⟨g, j, none⟩ := by unfold Addr.add; split <;> simp_all
  rw [e1]
  refine h.c j _ ?_
  have hk : j < k := by simp at h1; omega
  simp [List.getElem?_append, hk]

theorem mul_one_c (n : Nat) (w : World) (hn : n ≤ 1048576) :
    Calls Tryz.prog 168 #[.int .u64 1, .int .u64 n] w fun e w' => e = .returned (.tuple #[.int .u64 0, .int .u64 n]) ∧ w = w' := by
  refine (Tryz.bits_Mul 1 n (by omega) (by omega) w).mono ?_
  rintro e w' ⟨rfl, rfl⟩
  refine ⟨?_, rfl⟩
  rw [show 1 * n / 18446744073709551616 = 0 by omega, show 1 * n % 18446744073709551616 = n by omega]
  rfl

set_option maxRecDepth 100000 in
theorem Repeat_c (ad : Addr) (c : Nat) (b : Int) (n : Nat) (w : World) (hc : w.cell? ad = some (.int .i64 b)) (hn : n ≤ 1048576) :
    Calls Tryz.prog 104 #[.slice (some ad) 1 c, .int .i64 n] w fun r w' => ∃ g, r = .returned (.slice (some ⟨g, 0, none⟩) n n) ∧ Blk w' g 3 (List.replicate n (Value.int .i64 b)).toArray ∧ w.heap.size ≤ g ∧ Below w.heap.size w w' := by
  obtain ⟨i0, hi, hz0, hz1, hz2⟩ := info_parts infoIntK
  have hsz : (Tryz.prog.info? 3).map (·.size) = some 1 := by kernel_rfl
  go_enter Tryz.func104, Tryz.ntmps104
  go_wp2_with fail
  refine (mul_one_c n w hn).mono ?_
  rintro e w' ⟨rfl, rfl⟩
  go_wp2_with (first
    | (refine wpList_make_full _ rfl (.tmp 29) (.tmp 29) 45 rfl w.heap.size 3 i0 (.int .i64 0) 1 Tryz.underlying45 hi hz0 hz1 .i64 .i64 _ _ n rfl rfl rfl rfl (by rw [hz2]; omega) (by unfold maxLen; omega) (Nat.le_refl _) ?_; intro w1 hown hgrow; have hb1 : Below w.heap.size w w1 := (Below.refl _ w).grown hgrow (Nat.le_refl _) (fun k hk => by cases hk); have hk1 := own_full hown; rw [made_int] at hk1; have HK1 := Lib.hid hk1; clear hk1 hown)
    | (refine wpList_copy_splice rfl (.tmp 31) (.tmp 32) 45 45 rfl 3 Tryz.underlying45 hsz (some ⟨w.heap.size, 0, none⟩) (some ad) n n 1 c rfl rfl w.heap.size 0 (List.replicate n (Value.int .i64 0)) 3 HK1.out (List.replicate (min 1 n) (Value.int .i64 b)) (by simp) (fun _ => ⟨rfl, ad, rfl, fun j v hj => ?_⟩) (by simp; omega) (by simp [Value.oneCell']) w.heap.size w hb1 (Nat.le_refl _) ?_; exact rep_cell hb1 hc hj; intro w2 hg2 hb2))
  have hk2 : Blk w2 w.heap.size 3 (List.replicate (min 1 n) (Value.int .i64 b) ++ List.replicate (n - min 1 n) (Value.int .i64 0)).toArray := by
    have := hg2.out
    have e := splice_rep n 0 (min 1 n) b (by omega)
    simp only [List.replicate_zero, List.nil_append, Nat.sub_zero, Nat.zero_add] at e
    unfold Blk
    rw [this, e]
  have HK2 := Lib.hid hk2
  have HB2 := Lib.hid hb2
  clear hg2 hk2 hb2
  go_loopw [8] (fun i wr => ∃ k : Nat, k ≤ n ∧ i = .int .i64 k ∧ (0 < n → 0 < k) ∧ Blk wr w.heap.size 3 (List.replicate k (Value.int .i64 b) ++ List.replicate (n - k) (Value.int .i64 0)).toArray ∧ Below w.heap.size w wr) (fun i _ => n - (intOf i).toNat)
  case atStart => exact ⟨min 1 n, by omega, by simp, by omega, HK2.out, HB2.out⟩
  case round =>
    obtain ⟨k, hk, rfl, hpos, hbk, hB⟩ := hrel
    have HBK := Lib.hid hbk
    have HP := Lib.hid hpos
    clear hbk hpos
    by_cases hlt : k < n
    · have hk0 := HP.out (by omega)
      have hnk : ¬ n = k := by omega
      have hwm : IntKind.i64.wrap ((k : Int) + ((min k (n - k) : Nat) : Int)) = ((k + min k (n - k) : Nat) : Int) := by rw [IntWalk.i64_in _ (by omega)]; omega
      have g1 : (0 : Int) ≤ (k : Int) := by omega
      have g2 : (k : Int) ≤ (n : Int) := by omega
      go_wp2
      refine wp_region_noPanic ?_
      refine wp_region_held_drew (S := fun w' => Below w.heap.size w w') (by kernel_rfl) ?_ (fun hHeld => ?_)
      · first | exact rfl | ((try dsimp only); ((repeat' apply And.intro) <;> first | go_keep  | (repeat (first | with_reducible exact Below.refl _ _ | with_reducible assumption | with_reducible exact And.left (by assumption) | with_reducible exact And.left (And.right (by assumption)) | with_reducible refine Below.setCell ?_ (by dsimp only; omega) _ | with_reducible refine Below.allocE ?_ _ | with_reducible refine Below.drew ?_ | exact Below.refl _ _ | assumption | exact And.left (by assumption) | exact And.left (And.right (by assumption)) | refine Below.drew ?_ | refine Below.allocE ?_ _ | refine Below.setCell ?_ (by dsimp only; omega) _))))
      refine wpAnyH_take (i := 0) (oi := { dst := some 38, op := Op.move (Operand.tmp 8), type := 3, pos := _, after := #[], guard := none }) (v := ?_) rfl (by kernel_rfl) (by kernel_rfl) (by kernel_rfl) (fun _ _ _ h => h) (Or.inl ⟨by rfl, ?_⟩) (by assumption) ?_
      rotate_left 1
      · (intro w hSw; (try dsimp only at hSw); go_simp; (try with_reducible rfl))
      (try simp only [Act.put, List.setIfInBounds_toArray, List.set_cons_zero, List.set_cons_succ])
      refine wpAnyH_take (i := 1) (oi := { dst := some 39, op := Op.move (Operand.tmp 7), type := 45, pos := _, after := #[], guard := none }) (v := ?_) rfl (by kernel_rfl) (by kernel_rfl) (by kernel_rfl) (fun _ _ _ h => h) (Or.inl ⟨by rfl, ?_⟩) (by assumption) ?_
      rotate_left 1
      · (intro w hSw; (try dsimp only at hSw); go_simp; (try with_reducible rfl))
      (try simp only [Act.put, List.setIfInBounds_toArray, List.set_cons_zero, List.set_cons_succ])
      refine wpAnyH_take (i := 2) (oi := { dst := some 40, op := Op.move (Operand.tmp 8), type := 3, pos := _, after := #[], guard := none }) (v := ?_) rfl (by kernel_rfl) (by kernel_rfl) (by kernel_rfl) (fun _ _ _ h => h) (Or.inl ⟨by rfl, ?_⟩) (by assumption) ?_
      rotate_left 1
      · (intro w hSw; (try dsimp only at hSw); go_simp; (try with_reducible rfl))
      (try simp only [Act.put, List.setIfInBounds_toArray, List.set_cons_zero, List.set_cons_succ])
      refine wpAnyH_take (i := 3) (oi := { dst := some 41, op := Op.slice 45 (Operand.tmp 39) (some (Operand.tmp 40)) none none, type := 45, pos := _, after := #[{ on := 1, ground := Ground.data }, { on := 2, ground := Ground.data }], guard := none }) (v := ?_) rfl (by kernel_rfl) (by kernel_rfl) (by kernel_rfl) (fun _ _ _ h => h) (Or.inl ⟨by rfl, ?_⟩) (by assumption) ?_
      rotate_left 1
      · (intro w hSw; (try dsimp only at hSw); go_simp; (try with_reducible rfl))
      (try simp only [Act.put, List.setIfInBounds_toArray, List.set_cons_zero, List.set_cons_succ])
      refine wpAnyH_take (i := 4) (oi := { dst := some 42, op := Op.move (Operand.tmp 7), type := 45, pos := _, after := #[], guard := none }) (v := ?_) rfl (by kernel_rfl) (by kernel_rfl) (by kernel_rfl) (fun _ _ _ h => h) (Or.inl ⟨by rfl, ?_⟩) (by assumption) ?_
      rotate_left 1
      · (intro w hSw; (try dsimp only at hSw); go_simp; (try with_reducible rfl))
      (try simp only [Act.put, List.setIfInBounds_toArray, List.set_cons_zero, List.set_cons_succ])
      refine wpAnyH_take (i := 5) (oi := { dst := some 43, op := Op.move (Operand.tmp 8), type := 3, pos := _, after := #[], guard := none }) (v := ?_) rfl (by kernel_rfl) (by kernel_rfl) (by kernel_rfl) (fun _ _ _ h => h) (Or.inl ⟨by rfl, ?_⟩) (by assumption) ?_
      rotate_left 1
      · (intro w hSw; (try dsimp only at hSw); go_simp; (try with_reducible rfl))
      (try simp only [Act.put, List.setIfInBounds_toArray, List.set_cons_zero, List.set_cons_succ])
      refine wpAnyH_take (i := 6) (oi := { dst := some 44, op := Op.slice 45 (Operand.tmp 42) none (some (Operand.tmp 43)) none, type := 45, pos := _, after := #[{ on := 4, ground := Ground.data }, { on := 5, ground := Ground.data }], guard := none }) (v := ?_) rfl (by kernel_rfl) (by kernel_rfl) (by kernel_rfl) (fun _ _ _ h => h) (Or.inl ⟨by rfl, ?_⟩) (by assumption) ?_
      rotate_left 1
      · (intro w hSw; (try dsimp only at hSw); go_simp; (try with_reducible rfl))
      (try simp only [Act.put, List.setIfInBounds_toArray, List.set_cons_zero, List.set_cons_succ])
      refine wpAnyH_ready (rs := [7]) (by kernel_rfl) (by simp) ?_
      refine AllReadyH.cons (o := { dst := some 45, op := Op.call { callee := Callee.builtin Builtin.copy, args := #[Operand.tmp 41, Operand.tmp 44], argTypes := #[45, 45] }, type := 3, pos := _, after := #[{ on := 3, ground := Ground.data }, { on := 6, ground := Ground.data }], guard := none }) rfl (fun K hK => ?_) AllReadyH.nil
      (first | (first | (refine step_copy_splice (by rfl) (.tmp 41) (.tmp 44) 45 45 (by rfl) 3 Tryz.underlying45 hsz (some ⟨w.heap.size, k, none⟩) (some ⟨w.heap.size, 0, none⟩) (n - k) (n - k) k n (by rfl) (by rfl) w.heap.size k (List.replicate k (Value.int .i64 b) ++ List.replicate (n - k) (Value.int .i64 0)) 3 (by exact HBK.out.drew) (List.replicate (min k (n - k)) (Value.int .i64 b)) (by simp) (fun _ => ⟨rfl, _, rfl, fun j v hj => ?_⟩) (by simp; omega) (by intro v hv; rw [(List.mem_replicate.1 hv).2]; rfl) w.heap.size w (by exact hB.drew) (Nat.le_refl _) ?_; exact rep_cell2 HBK.out.drew hj; intro w4 hg4 hb4)) | (go_simp; (first | (refine step_copy_splice (by rfl) (.tmp 41) (.tmp 44) 45 45 (by rfl) 3 Tryz.underlying45 hsz (some ⟨w.heap.size, k, none⟩) (some ⟨w.heap.size, 0, none⟩) (n - k) (n - k) k n (by rfl) (by rfl) w.heap.size k (List.replicate k (Value.int .i64 b) ++ List.replicate (n - k) (Value.int .i64 0)) 3 (by exact HBK.out.drew) (List.replicate (min k (n - k)) (Value.int .i64 b)) (by simp) (fun _ => ⟨rfl, _, rfl, fun j v hj => ?_⟩) (by simp; omega) (by intro v hv; rw [(List.mem_replicate.1 hv).2]; rfl) w.heap.size w (by exact hB.drew) (Nat.le_refl _) ?_; exact rep_cell2 HBK.out.drew hj; intro w4 hg4 hb4))))
      refine hK.out _ _ ?_ (fun hNew => ?_)
      · (try dsimp only); ((repeat' apply And.intro) <;> first | go_keep  | (repeat (first | with_reducible exact Below.refl _ _ | with_reducible assumption | with_reducible exact And.left (by assumption) | with_reducible exact And.left (And.right (by assumption)) | with_reducible refine Below.setCell ?_ (by dsimp only; omega) _ | with_reducible refine Below.allocE ?_ _ | with_reducible refine Below.drew ?_ | exact Below.refl _ _ | assumption | exact And.left (by assumption) | exact And.left (And.right (by assumption)) | refine Below.drew ?_ | refine Below.allocE ?_ _ | refine Below.setCell ?_ (by dsimp only; omega) _)))
      clear hK K
      have hHeld := hNew
      clear hNew
      (try dsimp only at hHeld)
      (try simp only [Act.put, List.setIfInBounds_toArray, List.set_cons_zero, List.set_cons_succ])
      refine wpAnyH_take (i := 8) (oi := { dst := some 46, op := Op.binOp BinOp.add 3 (Operand.tmp 38) (Operand.tmp 45) 3, type := 3, pos := _, after := #[{ on := 0, ground := Ground.data }, { on := 7, ground := Ground.data }], guard := none }) (v := ?_) rfl (by kernel_rfl) (by kernel_rfl) (by kernel_rfl) (fun _ _ _ h => h) (Or.inl ⟨by rfl, ?_⟩) (by assumption) ?_
      rotate_left 1
      · (intro w hSw; (try dsimp only at hSw); go_simp; (try with_reducible rfl))
      (try simp only [Act.put, List.setIfInBounds_toArray, List.set_cons_zero, List.set_cons_succ])
      refine wpAnyH_take (i := 9) (oi := { dst := some 8, op := Op.assign (Operand.tmp 46), type := 3, pos := _, after := #[{ on := 8, ground := Ground.data }, { on := 7, ground := Ground.chain }, { on := 0, ground := Ground.phase }, { on := 1, ground := Ground.phase }, { on := 2, ground := Ground.phase }, { on := 3, ground := Ground.phase }, { on := 4, ground := Ground.phase }, { on := 5, ground := Ground.phase }, { on := 6, ground := Ground.phase }, { on := 7, ground := Ground.phase }, { on := 8, ground := Ground.phase }], guard := none }) (v := ?_) rfl (by kernel_rfl) (by kernel_rfl) (by kernel_rfl) (fun _ _ _ h => h) (Or.inl ⟨by rfl, ?_⟩) (by assumption) ?_
      rotate_left 1
      · (intro w hSw; (try dsimp only at hSw); go_simp; (try with_reducible rfl))
      (try simp only [Act.put, List.setIfInBounds_toArray, List.set_cons_zero, List.set_cons_succ])
      refine wpAnyH_done (by kernel_rfl) ?_ _
      refine NoPanic.normal ?_
      have e := hg4.out
      rw [splice_rep n k (min k (n - k)) b (by omega)] at e
      have HE := Lib.hid e
      clear e hg4
      obtain ⟨m, hm⟩ : ∃ m, k + min k (n - k) = m := ⟨_, rfl⟩
      rw [hm] at HE hwm
      go_wp2
      go_roundw
      case rel => exact ⟨m, by omega, by go_num, by omega, HE.out, hb4⟩
      case measure => simp [intOf]; omega
    · obtain rfl : k = n := by omega
      go_wp2
      go_ret
      exact ⟨_, rfl, by simpa using HBK.out, Nat.le_refl _, hB⟩

end Go.Proofs.YtoopgdchiljmiaaGreatDoor
