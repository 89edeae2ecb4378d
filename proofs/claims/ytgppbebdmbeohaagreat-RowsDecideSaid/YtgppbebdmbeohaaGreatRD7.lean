/-
  span.Of: the ranges of prefixes, in any order.
-/
import Derived.Test.YtgppbebdmbeohaaGreatRD6
import Derived.Deep.Light
set_option linter.unusedVariables false
namespace Go.Proofs.YtgppbebdmbeohaaGreat
open Go.RowKit Go
set_option linter.unusedVariables false

/-- a prefix without a fault -/
structure OkPf (p : Pf) : Prop where
  nn : p.2.2.2 = (p.2.2.2.toNat : Int)
  ok : POK p.1 p.2.1 p.2.2.1 p.2.2.2.toNat
def nuP (p : Pf) : Nat := numA p.1 p.2.1 p.2.2.1
/-- the range of a prefix -/
def spP (p : Pf) : Sp := (nuP p, fil (nuP p) (LN (nuP p) - p.2.2.2.toNat))
theorem okPf_of {p : Pf} (h : pFault p.1 p.2.1 p.2.2.1 p.2.2.2 = 0) (h1 : U64N p.2.1) (h2 : U64N p.2.2.1) : OkPf p := by
  obtain ⟨n, hn, hl⟩ := pFault_nat h
  have e : p.2.2.2.toNat = n := by rw [hn]; exact Int.toNat_natCast n
  refine ⟨by rw [e]; exact hn, ?_⟩
  rw [e]
  rw [hn] at h
  exact pFault_pok h h1 h2
theorem OkPf.num {p : Pf} (h : OkPf p) : VN (nuP p) ∧ sixN (nuP p) = p.1 ∧ hiN (nuP p) = p.2.1 ∧ loN (nuP p) = p.2.2.1 := aN_num h.ok.1
theorem OkPf.bits {p : Pf} (h : OkPf p) : p.2.2.2.toNat ≤ LN (nuP p) := by
  rw [LN_six, h.num.2.1]
  exact h.ok.2.1
theorem OkPf.cells {p : Pf} (h : OkPf p) : pfC p = (pN (nuP p) (p.2.2.2.toNat : Int)).toList := by
  obtain ⟨_, a, b, c⟩ := h.num
  unfold pN pfC
  rw [a, b, c, ← h.nn]
theorem OkPf.clr {p : Pf} (h : OkPf p) : clr (nuP p) (LN (nuP p) - p.2.2.2.toNat) = nuP p := by
  have e := mask_num (n := p.2.2.2.toNat) h.ok.1
  rw [h.ok.2.2.1, h.ok.2.2.2] at e
  rw [LN_six, h.num.2.1]
  exact e.symm
theorem OkPf.sp {p : Pf} (h : OkPf p) : PfxSp (spP p) (LN (nuP p) - p.2.2.2.toNat) := by
  have hd := clr_dvd.1 h.clr
  exact ⟨Nat.sub_le _ _, hd, fil_of hd⟩
theorem OkPf.vr {p : Pf} (h : OkPf p) : VR (spP p) := by
  have hv := h.num.1
  have hs := h.sp
  refine ⟨hv, VN_fil hv h.bits, (fil_six hv h.bits).symm, ?_⟩
  rw [hs.snd]; exact Nat.le_add_right _ _
theorem RdK.pf {w : World} {ad : Option Addr} {L : List Pf} (h : RdK layPf w ad L) {k : Nat} {p : Pf} (hp : L[k]? = some p) {a1 : Bool} {a2 a3 : Nat} {a4 : Int} (hc : pfC p = [.bool a1, .int .u64 (a2 : Int), .int .u64 (a3 : Int), .int .i64 a4]) :
    ∃ g o, ad = some ⟨g, o, none⟩ ∧ g < w.heap.size ∧ w.cell? ⟨g, o + k * 4, none⟩ = some (.bool a1) ∧ w.cell? ⟨g, o + k * 4 + 1, none⟩ = some (.int .u64 (a2 : Int)) ∧ w.cell? ⟨g, o + k * 4 + 2, none⟩ = some (.int .u64 (a3 : Int)) ∧ w.cell? ⟨g, o + k * 4 + 3, none⟩ = some (.int .i64 a4) := by
  obtain ⟨g, o, e, hg, h0⟩ := h k p hp
  have hE : layPf.enc p = pfC p := rfl
  have hK : layPf.K = 4 := rfl
  rw [hE, hc, hK] at h0
  exact ⟨g, o, e, hg, h0 0 _ rfl, h0 1 _ rfl, h0 2 _ rfl, h0 3 _ rfl⟩
theorem pf_cells {p : Pf} (h : OkPf p) : ∃ (a1 : Bool) (a2 a3 : Nat) (a4 : Nat), pfC p = [.bool a1, .int .u64 (a2 : Int), .int .u64 (a3 : Int), .int .i64 (a4 : Int)] ∧ pN (nuP p) (p.2.2.2.toNat : Int) = #[.bool a1, .int .u64 (a2 : Int), .int .u64 (a3 : Int), .int .i64 (a4 : Int)] ∧ aN (nuP p) = #[.bool a1, .int .u64 (a2 : Int), .int .u64 (a3 : Int)] :=
  ⟨_, _, _, _, h.cells, rfl, rfl⟩
theorem src_blk {α : Type} (E : Lay α) {w : World} {B : Nat} {t : TypeId} {cs : Array Value} (x : α) (hb : Blk w B t cs) (h : cs = (E.enc x).toArray) : Src w (some ⟨B, 0, none⟩) 1 E.K (E.enc x) := by
  subst h
  refine ⟨by rw [E.len, Nat.one_mul], fun j u hu => ⟨_, rfl, hb.lt, ?_⟩⟩
  have hadd : (⟨B, 0, none⟩ : Addr).add j = ⟨B, j, none⟩ := by unfold Addr.add; split <;> simp_all
  rw [hadd, hb.cell j]
  simpa using hu
/-- what the region of 'append(all, T{..})' has yielded -/
def spR (bx : Nat) (t : TypeId) (out : Value) (pa pf pl v6 : Array Value) : Nat → Value → World → Prop
  | 0, v, _ => v = out
  | 1, v, _ => v = .pointer (some ⟨bx, 0, none⟩)
  | 2, v, _ => v = .agg pa
  | 3, v, _ => v = .agg pf
  | 4, v, _ => v = .agg pl
  | 5, v, _ => v = .agg v6
  | _, v, w => ∃ B, v = .slice (some ⟨B, 0, none⟩) 1 1 ∧ Blk w B t v6
theorem spR_keep {bx : Nat} {t : TypeId} {out : Value} {pa pf pl v6 : Array Value} (p : Nat) (v : Value) (u w : World) (h : spR bx t out pa pf pl v6 p v u) (hb : Below u.heap.size u w) : spR bx t out pa pf pl v6 p v w := by
  rcases p with _ | _ | _ | _ | _ | _ | p
  all_goals first | exact h | (obtain ⟨B, h1, h2⟩ := h; exact ⟨B, h1, h2.below hb h2.lt⟩)
set_option maxRecDepth 100000 in
set_option maxHeartbeats 2000000 in
theorem spanOf_any (ad : Option Addr) (n c : Nat) (L : List Pf) (w : World) (h : RdK layPf w ad L) (hn : L.length = n) (hs : n ≤ 100000) (hv : ∀ p ∈ L, OkPf p) :
    Calls Tryz.prog 88 #[.slice ad n c] w fun e w' => ∃ v, e = .returned v ∧ OwnK layRg w' w.heap.size v (jn (L.map spP)) ∧ Below w.heap.size w w' := by
  have Hv := Lib.hid hv
  have H0 := Lib.hid h
  have Hn := Lib.hid hn
  clear h hn hv
  go_enter Tryz.func88, Tryz.ntmps88
  go_wp2_with fail
  go_loopw [3, 5, 8] (fun out bx i wr => ∃ k : Nat, k ≤ n ∧ i = .int .i64 (k : Int) ∧ Hid (OwnK layRg wr w.heap.size out ((L.take k).map spP)) ∧ Hid (Below w.heap.size w wr)) (fun _ _ i _ => n - (intOf i).toNat)
  case atStart => exact ⟨0, Nat.zero_le _, rfl, Lib.hid (OwnK.nil _ _ _), Lib.hid (Below.refl _ _)⟩
  case round =>
    obtain ⟨k, hk, rfl, HO, HB⟩ := hrel
    by_cases hlt : k < n
    · have hS : k < L.length := by rw [Hn.out]; exact hlt
      obtain ⟨p, hp⟩ : ∃ p, L[k]? = some p := ⟨_, List.getElem?_eq_getElem hS⟩
      have hok := Hv.out p (List.mem_of_getElem? hp)
      obtain ⟨a1, a2, a3, a4, hpc, hpn, hpa⟩ := pf_cells hok
      obtain ⟨g, o, had, hg, c0, c1, c2, c3⟩ := (H0.out.below HB.out).pf hp hpc
      subst had
      have HT1 : Hid ((L.take (k + 1)).map spP = (L.take k).map spP ++ [spP p]) := Lib.hid (by
        have : L[k] = p := by rw [List.getElem?_eq_getElem hS] at hp; injection hp
        rw [List.take_succ_eq_append_getElem hS, List.map_append, this]; rfl)
      have HL := Lib.hid fun wx => spanLastN (n := p.2.2.2.toNat) wx hok.num.1 hok.bits
      rw [hpn] at HL
      have HE : Hid (layRg.enc (spP p) = (aN (nuP p)).toList ++ (aN (fil (nuP p) (LN (nuP p) - p.2.2.2.toNat))).toList) := Lib.hid rfl
      rw [hpa] at HE
      generalize spP p = sp at *
      have hlen : ((L.take k).map spP).length = k := by rw [List.length_map, List.length_take]; omega
      have HLn := Lib.hid hlen
      unfold aN at HL HE
      generalize sixN (fil (nuP p) (LN (nuP p) - p.2.2.2.toNat)) = v1 at *
      generalize hiN (fil (nuP p) (LN (nuP p) - p.2.2.2.toNat)) = v2 at *
      generalize loN (fil (nuP p) (LN (nuP p) - p.2.2.2.toNat)) = v3 at *
      clear hp hS hok hpc hpn hpa hlen
      have HB1 : Hid (Below w.heap.size w (wr.alloc (.cells #[.bool a1, .int .u64 (a2 : Int), .int .u64 (a3 : Int), .int .i64 (a4 : Int)] 114 (0, 0)))) := Lib.hid (Below.alloc HB.out HB.out.size _)
      have HP1 : Hid (Blk (wr.alloc (.cells #[.bool a1, .int .u64 (a2 : Int), .int .u64 (a3 : Int), .int .i64 (a4 : Int)] 114 (0, 0))) wr.heap.size 114 #[.bool a1, .int .u64 (a2 : Int), .int .u64 (a3 : Int), .int .i64 (a4 : Int)]) := Lib.hid (Blk.new wr _ _)
      have HO1 : Hid (OwnK layRg (wr.alloc (.cells #[.bool a1, .int .u64 (a2 : Int), .int .u64 (a3 : Int), .int .i64 (a4 : Int)] 114 (0, 0))) w.heap.size u3 ((L.take k).map spP)) := Lib.hid (HO.out.alloc _)
      go_upto_region 5 with fail
      generalize wr.alloc (.cells #[.bool a1, .int .u64 (a2 : Int), .int .u64 (a3 : Int), .int .i64 (a4 : Int)] 114 (0, 0)) = w3 at *
      generalize wr.heap.size = bx at *
      clear HB HO c0 c1 c2 c3 hg
      have d0 := HP1.out.cell 0
      have d1 := HP1.out.cell 1
      have d2 := HP1.out.cell 2
      have d3 := HP1.out.cell 3
      simp at d0 d1 d2 d3
      have l0 := Later.cell_of d0
      have l1 := Later.cell_of d1
      have l2 := Later.cell_of d2
      have l3 := Later.cell_of d3
      have hL := fun x : Later w3 => Calls.later x (HL.out x.1)
      have HO6 := HO1
      generalize hLL : (L.take k).map spP = LL at *
      clear hLL
      refine wp_region_inv 7 0 (spR bx 162 u3 #[.bool a1, .int .u64 (a2 : Int), .int .u64 (a3 : Int)] #[.bool a1, .int .u64 (a2 : Int), .int .u64 (a3 : Int), .int .i64 (a4 : Int)] #[.bool v1, .int .u64 (v2 : Int), .int .u64 (v3 : Int)] #[.bool a1, .int .u64 (a2 : Int), .int .u64 (a3 : Int), .bool v1, .int .u64 (v2 : Int), .int .u64 (v3 : Int)]) (fun _ w' => Below w3.heap.size w3 w') (fun u v => Below u.heap.size u v) (fun _ => 0)
        (by kernel_rfl) (by kernel_rfl) (by decide) spR_keep (below_drew (Below.refl _ _)) ?hX
      case' hX => (apply Exists.intro; refine ⟨fun T => ?hA, ?hob, ?hend⟩)
      case hA =>
        simp only [setAll, List.take_succ_cons, List.take_zero, Act.put, List.setIfInBounds_toArray, List.set_cons_succ, List.set_cons_zero, Nat.reduceAdd]
        exact rfl
      case hob =>
        clear HO1 HB1 HP1 HO6 d0 d1 d2 d3 HT1 HE HLn hL
        go_light
        refine ⟨?_, ?_, ?_, ?_, ?_, ?_, ?_, trivial⟩
        all_goals (intro T wx n0 hC hn hp; dsimp only at hn ⊢; unfold Op1)
        · go_simp
          exact ⟨rfl, Below.refl _ _⟩
        · go_simp
          exact ⟨rfl, Below.refl _ _⟩
        · obtain ⟨h0, -⟩ := hp
          have h0 : T 1 = .pointer (some ⟨bx, 0, none⟩) := h0
          have e0 := l0 ⟨wx, hC⟩
          have e1 := l1 ⟨wx, hC⟩
          have e2 := l2 ⟨wx, hC⟩
          simp only at e0 e1 e2
          go_simp
          exact ⟨rfl, Below.refl _ _⟩
        · have e0 := l0 ⟨wx, hC⟩
          have e1 := l1 ⟨wx, hC⟩
          have e2 := l2 ⟨wx, hC⟩
          have e3 := l3 ⟨wx, hC⟩
          simp only at e0 e1 e2 e3
          go_simp
          exact ⟨rfl, Below.refl _ _⟩
        · obtain ⟨h0, -⟩ := hp
          have h0 : T 3 = .agg #[.bool a1, .int .u64 (a2 : Int), .int .u64 (a3 : Int), .int .i64 (a4 : Int)] := h0
          go_simp
          refine (HL.out wx).mono ?_
          rintro e w5 ⟨rfl, hb⟩
          exact ⟨_, rfl, rfl, hC.trans (hb.mono hC.size), hb⟩
        · obtain ⟨h0, h1, -⟩ := hp
          have h0 : T 2 = .agg #[.bool a1, .int .u64 (a2 : Int), .int .u64 (a3 : Int)] := h0
          have h1 : T 4 = .agg #[.bool v1, .int .u64 (v2 : Int), .int .u64 (v3 : Int)] := h1
          go_simp
          exact ⟨rfl, Below.refl _ _⟩
        · obtain ⟨h0, -⟩ := hp
          have h0 : T 5 = .agg #[.bool a1, .int .u64 (a2 : Int), .int .u64 (a3 : Int), .bool v1, .int .u64 (v2 : Int), .int .u64 (v3 : Int)] := h0
          go_simp
          exact ⟨⟨wx.heap.size, rfl, Blk.new wx _ _⟩, below_alloc hC _, below_alloc (Below.refl _ _) _⟩
      case hend =>
        intro T w4 ⟨n0, hn0, hb⟩ hR
        have hT0 : T 0 = u3 := hR 0 (by omega)
        obtain ⟨B, hT6, hBl⟩ := hR 6 (by omega)
        have HO4 := Lib.hid (HO1.out.later hb)
        have HB4 := Lib.hid (HB1.out.trans (hb.mono HB1.out.size))
        have HBl := Lib.hid hBl
        clear hR hb hBl HO1 HB1 HP1 HO6 d0 d1 d2 d3 l0 l1 l2 l3 hL
        simp only [List.drop_succ_cons, List.drop_zero]
        refine wpList_app (c := 1) rgE rfl (.tmp 12) (.tmp 18) rfl ?hs HO4.out ?hx (src_blk layRg sp HBl.out ?c0) ?c1 ?c2 ?c3 ?c4 ?_
        case hs => exact hT0
        case hx => exact hT6
        case c0 => exact (congrArg List.toArray HE.out).symm
        case c1 => exact layRg.one sp
        case c2 => unfold maxLen; rw [HLn.out]; omega
        case c3 => rw [HLn.out]; omega
        case c4 => exact HB4.out.size
        intro v' w' hO hG
        have HO' : Hid (OwnK layRg w' w.heap.size v' ((L.take (k + 1)).map spP)) := Lib.hid (by rw [HT1.out]; exact OwnK.snoc hO)
        have HB' : Hid (Below w.heap.size w w') := Lib.hid (HB4.out.trans (hG.below HB4.out.size (own_base HO4.out)))
        clear hO hG
        go_wp2
        exact ⟨⟨k + 1, by omega, by go_num, HO', HB'⟩, by simp [intOf]; omega⟩
    · obtain rfl : k = n := by omega
      have hT : L.take k = L := List.take_of_length_le (by rw [Hn.out]; exact Nat.le_refl _)
      have HO2 : Hid (OwnK layRg wr w.heap.size u3 (L.map spP)) := Lib.hid (by have := HO.out; rw [hT] at this; exact this)
      obtain ⟨ad2, c2, hv2, _, _, _⟩ := HO2.out.form
      rw [List.length_map, Hn.out] at hv2
      subst hv2
      have HJ := Lib.hid (joined_any ad2 k c2 (L.map spP) wr HO2.out.rd (by rw [List.length_map, Hn.out]) (by omega) (fun p hp => by
        obtain ⟨q, hq, rfl⟩ := List.mem_map.1 hp
        exact (Hv.out q hq).vr))
      clear hT HO HO2
      go_wp2_with fail
      refine HJ.out.mono ?_
      rintro e w2 ⟨v, rfl, hO, hb⟩
      go_wp2_with fail
      go_ret
      exact ⟨_, rfl, hO.weak HB.out.size, HB.out.trans (hb.mono HB.out.size)⟩
end Go.Proofs.YtgppbebdmbeohaaGreat
