/-
  The reference's ThinOf = thinQ. Condition: at most twenty reports, a day of 0 to 4001.
-/
import Derived.Test.YtippolfmljfleaaGreatDoorRT16
import Derived.Test.YtippolfmljfleaaGreatDoorRT13
set_option linter.unusedVariables false
namespace Go.Proofs.YtippolfmljfleaaGreatDoor
open Go.RowKit Go
set_option linter.unusedVariables false

def oldT (d : Int) (L : List RB) (k : Nat) : List RB := ((L.take k).filter (isOld d)).map oldR
def restT (d : Int) (L : List RB) (k : Nat) : List RB := (L.take k).filter fun x => !isOld d x
theorem oldT_hit {d : Int} {L : List RB} {k : Nat} {x : RB} (h : L[k]? = some x) (ho : isOld d x = true) : oldT d L (k + 1) = oldT d L k ++ [oldR x] ∧ restT d L (k + 1) = restT d L k := by
  obtain ⟨hk, rfl⟩ := List.getElem?_eq_some_iff.1 h
  unfold oldT restT
  rw [List.take_succ_eq_append_getElem hk, List.filter_append, List.filter_append, List.filter_cons_of_pos ho, List.filter_cons_of_neg (by simp [ho])]
  simp
theorem oldT_miss {d : Int} {L : List RB} {k : Nat} {x : RB} (h : L[k]? = some x) (ho : isOld d x = false) : oldT d L (k + 1) = oldT d L k ∧ restT d L (k + 1) = restT d L k ++ [x] := by
  obtain ⟨hk, rfl⟩ := List.getElem?_eq_some_iff.1 h
  unfold oldT restT
  rw [List.take_succ_eq_append_getElem hk, List.filter_append, List.filter_append, List.filter_cons_of_neg (by simp [ho]), List.filter_cons_of_pos (by simp [ho])]
  simp
theorem oldT_len (d : Int) (L : List RB) (k : Nat) : (oldT d L k).length ≤ k := by
  unfold oldT
  rw [List.length_map]
  exact Nat.le_trans (List.length_filter_le _ _) (by rw [List.length_take]; omega)
theorem restT_len (d : Int) (L : List RB) (k : Nat) : (restT d L k).length ≤ k := by
  unfold restT
  exact Nat.le_trans (List.length_filter_le _ _) (by rw [List.length_take]; omega)
theorem oldT_all (d : Int) (L : List RB) (n : Nat) (h : L.length = n) : togL (oldT d L n) ++ restT d L n = thinQ d L := by
  subst h
  unfold oldT restT thinQ
  rw [List.take_of_length_le (Nat.le_refl _)]
theorem togF_len : ∀ (B out : List RB), (B.foldl togS out).length ≤ out.length + B.length
  | [], out => by simp
  | b :: B, out => by
    rw [List.foldl_cons]
    have h1 := togF_len B (togS out b)
    have h2 := @togS_len out b
    rw [List.length_cons]
    omega
theorem togL_len (L : List RB) : (togL L).length ≤ L.length := by
  unfold togL
  have := togF_len (stabR L) []
  rw [stabR_len] at this
  simpa using this
set_option maxRecDepth 100000 in
set_option maxHeartbeats 8000000 in
theorem thinOf_any (ad : Option Addr) (n c : Nat) (L : List RB) (d : Int) (w : World) (h : RdK layRb w ad L) (hn : L.length = n) (hs : n ≤ 20) (hd : 0 ≤ d ∧ d ≤ 4001) :
    Calls Tryz.prog 17 #[.slice ad n c, .int .i64 d] w fun e w' => ∃ v, e = .returned v ∧ OwnK layRb w' w.heap.size v (thinQ d L) ∧ Below w.heap.size w w' := by
  have HR0 := Lib.hid h
  have Hn := Lib.hid hn
  have hd0 := hd.1
  have hd1 := hd.2
  clear h hn hd
  go_enter Tryz.func17, Tryz.ntmps17
  go_wp2_with fail
  go_loopw [5, 6, 11] (fun u v i wr => ∃ k : Nat, k ≤ n ∧ i = .int .i64 (k : Int) ∧ Hid (Two layRb wr w.heap.size u v (oldT d L k) (restT d L k)) ∧ Hid (Below w.heap.size w wr)) (fun _ _ i _ => n - (intOf i).toNat)
  case atStart => exact ⟨0, Nat.zero_le _, rfl, Lib.hid (Two.nil _ _ _), Lib.hid (Below.refl _ _)⟩
  case round =>
    obtain ⟨k, hk, rfl, HT, HB⟩ := hrel
    by_cases hlt : k < n
    · obtain ⟨x, hx⟩ : ∃ x, L[k]? = some x := ⟨_, List.getElem?_eq_getElem (by rw [Hn.out]; exact hlt)⟩
      have HHit := Lib.hid (oldT_hit (d := d) hx)
      have HMiss := Lib.hid (oldT_miss (d := d) hx)
      obtain ⟨g, o, had, hg, hc⟩ := (HR0.out.below HB.out) k x hx
      have HRx : Hid (wr.rangeAt g (o + k * 14) (layRb.enc x)) := Lib.hid fun j v hv => by
        have := hc j v hv
        rwa [← Nat.add_assoc] at this
      have HX1 : Hid ((layRb.enc x).toArray.size = 14) := Lib.hid (by rw [List.size_toArray, layRb.len]; rfl)
      have HX2 : Hid ((layRb.enc x).toArray.all (·.oneCell') = true) := Lib.hid (all_oneCell_toArray (layRb.one x))
      have HOl : Hid ((((layRb.enc x).toArray.setIfInBounds 1 (.int .i64 (x.1.hour - x.1.hour.tmod 24))).setIfInBounds 10 (.int .i64 0)).setIfInBounds 11 (.int .i64 0) = (layRb.enc (oldR x)).toArray) := Lib.hid rfl
      have hl1 := oldT_len d L k
      have hl2 := restT_len d L k
      obtain ⟨A, hA⟩ : ∃ q, oldT d L k = q := ⟨_, rfl⟩
      obtain ⟨R, hR⟩ : ∃ q, restT d L k = q := ⟨_, rfl⟩
      rw [hA] at HT HHit HMiss hl1
      rw [hR] at HT HHit HMiss hl2
      clear hA hR
      obtain ⟨ao, co, hvo, -⟩ := HT.out.l.form
      subst hvo
      obtain ⟨ar, cr, hvr, -⟩ := HT.out.r.form
      subst hvr
      obtain ⟨q1, hq1⟩ : ∃ q, A.length = q := ⟨_, rfl⟩
      obtain ⟨q2, hq2⟩ : ∃ q, R.length = q := ⟨_, rfl⟩
      have Hq1 := Lib.hid hq1
      have Hq2 := Lib.hid hq2
      rw [hq1] at HT hl1 ⊢
      rw [hq2] at HT hl2 ⊢
      clear hq1 hq2 hc hx
      obtain ⟨XC, hXC⟩ : ∃ X, (layRb.enc x).toArray = X := ⟨_, rfl⟩
      have hXL : layRb.enc x = XC.toList := by rw [← hXC]
      have HXC := Lib.hid hXC
      rw [hXL] at HRx
      rw [hXC] at HX1 HX2 HOl
      clear hXC hXL
      subst had
      have HP : Hid (Blk (wr.alloc (.cells XC 45 (0, 0))) wr.heap.size 45 XC) := Lib.hid (Blk.new wr _ _)
      have HT3 := Lib.hid (HT.out.alloc (.cells XC 45 (0, 0)))
      have HB3 : Hid (Below w.heap.size w (wr.alloc (.cells XC 45 (0, 0)))) := Lib.hid (Below.alloc HB.out HB.out.size _)
      have hlo : ∀ k, (Value.slice ao q1 co).ownBlock = some k → k ≠ wr.heap.size := fun k hk => Nat.ne_of_lt (own_lt HT.out.l k hk)
      have hlr : ∀ k, (Value.slice ar q2 cr).ownBlock = some k → k ≠ wr.heap.size := fun k hk => Nat.ne_of_lt (own_lt HT.out.r k hk)
      have HLo := Lib.hid hlo
      have HLr := Lib.hid hlr
      have hwx := HB.out.size
      clear HT HB hlo hlr
      go_upto_region 5 with (first | (refine wpList_loadn rfl 45 _ rfl g (o + k * 14) rfl _ _ HRx.out under_rb rfl 14 size_rb (by simpa using HX1.out) ?_; go_simp) | (refine wpList_var XC 45 Tryz.zeroValue45 rfl rfl rfl _ _ rfl _ rfl ?_ ?_ 14 size_rb HX1.out ?_ HX2.out ?_; all_goals (try rfl); try go_simp))
      generalize wr.alloc (.cells XC 45 (0, 0)) = w3 at *
      generalize wr.heap.size = bx at *
      clear HRx hg HX2
      have Xl : XC.toList.length = 14 := by simpa using HX1.out
      have x1 : w3.cell? ⟨bx, 1, none⟩ = some (.int .i64 x.1.hour) := by rw [HP.out.cell 1, ← HXC.out]; rfl
      have ed : wrap64 (24 * d) = 24 * d := by unfold wrap64; omega
      have ed2 : IntKind.i64.wrap (24 * d) = 24 * d := by rw [IntKind.wrap_i64]; omega
      by_cases ho : x.1.hour < 24 * d
      · have hold : isOld d x = true := decide_eq_true ho
        obtain ⟨hA2, hR2⟩ := HHit.out hold
        have HA2 := Lib.hid hA2
        have HR2 := Lib.hid hR2
        have ho2 : (24 * d ≤ x.1.hour) = False := eq_false (by omega)
        have hbd := thin_bd x.2.2.1 x.2.2.2.1
        have et : wrap64 (x.1.hour - x.1.hour.tmod 24) = x.1.hour - x.1.hour.tmod 24 := by unfold wrap64; omega
        have fr := HP.out.free
        have x10 : w3.cell? ⟨bx, 10, none⟩ = some (.int .i64 x.1.f.fp) := by rw [HP.out.cell 10, ← HXC.out]; rfl
        have x11 : w3.cell? ⟨bx, 11, none⟩ = some (.int .i64 x.1.f.tp) := by rw [HP.out.cell 11, ← HXC.out]; rfl
        obtain ⟨h', hh'⟩ : ∃ q, x.1.hour - x.1.hour.tmod 24 = q := ⟨_, rfl⟩
        rw [hh'] at et HOl
        clear hbd hA2 hR2 hold HHit HMiss
        have HS : Hid (((w3.setCell ⟨bx, 1, none⟩ (.int .i64 h')).setCell ⟨bx, 10, none⟩ (.int .i64 0)).setCell ⟨bx, 11, none⟩ (.int .i64 0) = ((w3.setCell ⟨bx, 1, none⟩ (.int .i64 h')).setCell ⟨bx, 10, none⟩ (.int .i64 0)).setCell ⟨bx, 11, none⟩ (.int .i64 0)) := Lib.hid rfl
        have HG : Hid (w3.grownBy (((w3.setCell ⟨bx, 1, none⟩ (.int .i64 h')).setCell ⟨bx, 10, none⟩ (.int .i64 0)).setCell ⟨bx, 11, none⟩ (.int .i64 0)) (some bx)) := Lib.hid (((grown_setCells bx [.int .i64 h'] 1 w3).trans (grown_setCells bx [.int .i64 0] 10 _)).trans (grown_setCells bx [.int .i64 0] 11 _))
        have HP4 : Hid (Blk (((w3.setCell ⟨bx, 1, none⟩ (.int .i64 h')).setCell ⟨bx, 10, none⟩ (.int .i64 0)).setCell ⟨bx, 11, none⟩ (.int .i64 0)) bx 45 (layRb.enc (oldR x)).toArray) := Lib.hid (by rw [← HOl.out]; exact Blk.set (Blk.set (Blk.set HP.out 1 _) 10 _) 11 _)
        have HT4 := Lib.hid (HT3.out.farRow HLo.out HLr.out HG.out)
        have HB4 := Lib.hid (HB3.out.grown HG.out HB3.out.size (fun k hk => by injection hk with hk; omega))
        obtain ⟨XO, hXO⟩ : ∃ X, (layRb.enc (oldR x)).toArray = X := ⟨_, rfl⟩
        have HXO := Lib.hid hXO
        rw [hXO] at HP4
        have hO1 : XO.size = 14 := by rw [← hXO, List.size_toArray, layRb.len]; rfl
        clear hXO HOl HG HT3 HB3
        go_upto_region 9 with fail
        clear HP x1 x10 x11 fr et hh'
        generalize ((w3.setCell ⟨bx, 1, none⟩ (.int .i64 h')).setCell ⟨bx, 10, none⟩ (.int .i64 0)).setCell ⟨bx, 11, none⟩ (.int .i64 0) = w4 at *
        clear HS
        have HOr : Hid (w4.ownsRow w.heap.size 45 14 (.slice ao q1 co) q1 (layRb.all A)) := Lib.hid (by
          have this : w4.ownsRow w.heap.size 45 14 (.slice ao q1 co) A.length (layRb.all A) := HT4.out.l
          rw [Hq1.out] at this
          exact this)
        have Ol : XO.toList.length = 14 := by simpa using hO1
        go_wp2_with (first | (refine wpList_loadn rfl 45 _ rfl bx 0 rfl XO.toList _ HP4.out.range under_rb rfl 14 size_rb Ol ?_; go_simp) | (refine wpList_build1 rfl 26 45 _ rfl XO rfl 14 Tryz.underlying26 zero_rb hO1 (by decide) (by decide) ?_; go_simp) | (at_builtin; refine wpList_app rbE rfl (.tmp 35) (.tmp 37) rfl rfl (World.ownsRow.alloc HOr.out _) rfl (src_new layRb _ (oldR x) _ _ ?c0a) ?c1a ?c2a ?c3a ?c4a ?_))
        case c0a => exact HXO.out.symm
        case c1a => exact layRb.one (oldR x)
        case c2a => unfold maxLen; omega
        case c3a => omega
        case c4a => have := HB4.out.size; simp; omega
        intro v5 w5 hO5 hG5
        have hbz : w.heap.size ≤ (w4.alloc (.cells XO 45 (0, 0))).heap.size := by have := HB4.out.size; simp; omega
        have HE1 : Hid (Two layRb w5 w.heap.size v5 (.slice ar q2 cr) (oldT d L (k + 1)) (restT d L (k + 1))) := Lib.hid (by
          rw [HA2.out, HR2.out]
          exact (HT4.out.alloc _).left (OwnK.snoc (by rw [Hq1.out]; exact hO5)) hG5)
        have HE2 : Hid (Below w.heap.size w w5) := Lib.hid ((Below.alloc HB4.out HB4.out.size _).trans (hG5.below hbz (own_base HOr.out)))
        clear hO5 hG5 hbz HOr
        go_wp2_with fail
        exact ⟨⟨k + 1, by omega, by go_num, HE1, HE2⟩, by simp [intOf]; omega⟩
      · have hold : isOld d x = false := decide_eq_false ho
        obtain ⟨hA2, hR2⟩ := HMiss.out hold
        have HA2 := Lib.hid hA2
        have HR2 := Lib.hid hR2
        have ho2 : (24 * d ≤ x.1.hour) = True := eq_true (by omega)
        clear hA2 hR2 hold HHit HMiss HOl
        have HOr : Hid (w3.ownsRow w.heap.size 45 14 (.slice ar q2 cr) q2 (layRb.all R)) := Lib.hid (by
          have this : w3.ownsRow w.heap.size 45 14 (.slice ar q2 cr) R.length (layRb.all R) := HT3.out.r
          rw [Hq2.out] at this
          exact this)
        have hX1 := HX1.out
        go_wp2_with (first | (refine wpList_loadn rfl 45 _ rfl bx 0 rfl XC.toList _ HP.out.range under_rb rfl 14 size_rb Xl ?_; go_simp) | (refine wpList_build1 rfl 26 45 _ rfl XC rfl 14 Tryz.underlying26 zero_rb hX1 (by decide) (by decide) ?_; go_simp) | (at_builtin; refine wpList_app rbE rfl (.tmp 20) (.tmp 22) rfl rfl (World.ownsRow.alloc HOr.out _) rfl (src_new layRb _ x _ _ ?c0b) ?c1b ?c2b ?c3b ?c4b ?_))
        case c0b => exact HXC.out.symm
        case c1b => exact layRb.one x
        case c2b => unfold maxLen; omega
        case c3b => omega
        case c4b => have := HB3.out.size; simp; omega
        intro v5 w5 hO5 hG5
        have hbz : w.heap.size ≤ (w3.alloc (.cells XC 45 (0, 0))).heap.size := by have := HB3.out.size; simp; omega
        have HE1 : Hid (Two layRb w5 w.heap.size (.slice ao q1 co) v5 (oldT d L (k + 1)) (restT d L (k + 1))) := Lib.hid (by
          rw [HA2.out, HR2.out]
          exact (HT3.out.alloc _).right (OwnK.snoc (by rw [Hq2.out]; exact hO5)) hG5)
        have HE2 : Hid (Below w.heap.size w w5) := Lib.hid ((Below.alloc HB3.out HB3.out.size _).trans (hG5.below hbz (own_base HOr.out)))
        clear hO5 hG5 hbz HOr
        go_wp2_with fail
        exact ⟨⟨k + 1, by omega, by go_num, HE1, HE2⟩, by simp [intOf]; omega⟩
    · obtain rfl : k = n := by omega
      have hAll := oldT_all d L k Hn.out
      have HAll := Lib.hid hAll
      have hl1 := oldT_len d L k
      have hl2 := restT_len d L k
      have hl3 := togL_len (oldT d L k)
      obtain ⟨ao, co, hvo, -⟩ := HT.out.l.form
      subst hvo
      obtain ⟨ar, cr, hvr, -⟩ := HT.out.r.form
      subst hvr
      have HTg := Lib.hid (qtogether_any w.heap.size ao _ co (oldT d L k) wr HT.out.l HB.out.size rfl (by omega))
      generalize oldT d L k = A at *
      generalize restT d L k = R at *
      obtain ⟨TG, hTG⟩ : ∃ q, togL A = q := ⟨_, rfl⟩
      rw [hTG] at HTg HAll hl3
      obtain ⟨q1, hq1⟩ : ∃ q, A.length = q := ⟨_, rfl⟩
      obtain ⟨q2, hq2⟩ : ∃ q, R.length = q := ⟨_, rfl⟩
      have Hq1 := Lib.hid hq1
      have Hq2 := Lib.hid hq2
      rw [hq1] at HT HTg hl1 hl3 ⊢
      rw [hq2] at HT hl2 ⊢
      clear hq1 hq2 hTG hAll
      go_wp2_with fail
      refine HTg.out.mono ?_
      rintro e w5 ⟨v5, rfl, hO, hb, hgr⟩
      have hbw := HB.out.size
      have HE1 := Lib.hid (hO.weak hbw)
      have HE2 := Lib.hid (HB.out.trans hb)
      have HRr : Hid (OwnK layRb w5 w.heap.size (.slice ar q2 cr) R) := Lib.hid (World.ownsRow.kept HT.out.r hgr HT.out.a.or)
      clear hO hb hgr HTg HT
      obtain ⟨at5, ct5, hv5, -⟩ := HE1.out.form
      subst hv5
      obtain ⟨q3, hq3⟩ : ∃ q, TG.length = q := ⟨_, rfl⟩
      have Hq3 := Lib.hid hq3
      rw [hq3] at HE1 hl3 ⊢
      obtain ⟨ad6, c6, hv6, hsr, -⟩ := HRr.out.form
      injection hv6 with e1 e2 e3
      subst e1
      have HSr := Lib.hid hsr
      rw [Hq2.out] at HSr
      clear hsr e2 e3 hq3
      have HOr : Hid (w5.ownsRow w.heap.size 45 14 (.slice at5 q3 ct5) q3 (layRb.all TG)) := Lib.hid (by
        have this : w5.ownsRow w.heap.size 45 14 (.slice at5 q3 ct5) TG.length (layRb.all TG) := HE1.out
        rw [Hq3.out] at this
        exact this)
      go_wp2_with (at_builtin; refine wpList_app rbE rfl (.tmp 41) (.tmp 42) rfl rfl HOr.out rfl HSr.out ?d1 ?d2 ?d3 ?d4 ?_)
      case d1 => exact layRb.all_one R
      case d2 => unfold maxLen; omega
      case d3 => omega
      case d4 => exact HE2.out.size
      intro v7 w7 hO7 hG7
      have HE7 : Hid (OwnK layRb w7 w.heap.size v7 (thinQ d L)) := Lib.hid (by
        rw [← HAll.out]
        exact OwnK.app (by rw [Hq3.out, Hq2.out]; exact hO7))
      have HE8 : Hid (Below w.heap.size w w7) := Lib.hid (HE2.out.trans (hG7.below HE2.out.size (own_base HOr.out)))
      clear hO7 hG7
      go_wp2_with fail
      go_ret
      exact ⟨_, rfl, HE7.out, HE8.out⟩
end Go.Proofs.YtippolfmljfleaaGreatDoor
