/- Printed: functions of the given program as functions over plain data, and that the machine does what they say; no claim of its own; no condition. -/
import Derived.Test.YtlkddekecegfdaaLfN
set_option maxRecDepth 100000
set_option maxHeartbeats 4000000
set_option linter.unusedVariables false
set_option linter.unusedSimpArgs false
namespace Go.AM
open Go

structure Isochronref16Draft where
  Bridges : Int
  Stations : Int
  Chords : (List Int)
  Homes : (List Int)
  Pers : (List Int)
  Delays : (List Int)
  deriving Inhabited
def eIsochronref16Draft : Enc Isochronref16Draft := eMap (fun s => (s.Bridges, s.Stations, s.Chords, s.Homes, s.Pers, s.Delays, ())) (ePair (eInt .u8) (ePair (eInt .u8) (ePair (eSl (eInt .u8)) (ePair (eSl (eInt .u8)) (ePair (eSl (eInt .u8)) (ePair (eSl (eInt .u8)) eUnit))))))
theorem eIsochronref16Draft_el {φ : Fz} {cs : List Value} {x : Isochronref16Draft} (h : eIsochronref16Draft.R φ cs x) : ∃ a153496 n153496 c153496, ∃ a153497 n153497 c153497, ∃ a153498 n153498 c153498, ∃ a153499 n153499 c153499, cs = [.int .u8 x.Bridges, .int .u8 x.Stations, .slice a153496 n153496 c153496, .slice a153497 n153497 c153497, .slice a153498 n153498 c153498, .slice a153499 n153499 c153499] ∧ RSl (eInt .u8) φ (.slice a153496 n153496 c153496) x.Chords ∧ RSl (eInt .u8) φ (.slice a153497 n153497 c153497) x.Homes ∧ RSl (eInt .u8) φ (.slice a153498 n153498 c153498) x.Pers ∧ RSl (eInt .u8) φ (.slice a153499 n153499 c153499) x.Delays := by
  obtain ⟨p1, r1, e1, g1, p2, r2, e2, g2, p3, r3, e3, g3, p4, r4, e4, g4, p5, r5, e5, g5, p6, r6, e6, g6, gl⟩ := h
  have gl : r6 = [] := gl
  have g1 : p1 = [.int .u8 x.Bridges] := g1
  have g2 : p2 = [.int .u8 x.Stations] := g2
  obtain ⟨a3, n3, c3, g3, R3⟩ := g3
  obtain ⟨a4, n4, c4, g4, R4⟩ := g4
  obtain ⟨a5, n5, c5, g5, R5⟩ := g5
  obtain ⟨a6, n6, c6, g6, R6⟩ := g6
  subst gl
  subst g1 g2 g3 g4 g5 g6
  subst e6
  subst e5
  subst e4
  subst e3
  subst e2
  subst e1
  exact ⟨a3, n3, c3, a4, n4, c4, a5, n5, c5, a6, n6, c6, rfl, R3, R4, R5, R6⟩
structure ApiLink where
  A : Int
  B : Int
  Per : Int
  Delay : Int
  deriving Inhabited
def eApiLink : Enc ApiLink := eMap (fun s => (s.A, s.B, s.Per, s.Delay, ())) (ePair (eInt .i64) (ePair (eInt .i64) (ePair (eInt .i64) (ePair (eInt .i64) eUnit))))
theorem eApiLink_el {φ : Fz} {cs : List Value} {x : ApiLink} (h : eApiLink.R φ cs x) : cs = [.int .i64 x.A, .int .i64 x.B, .int .i64 x.Per, .int .i64 x.Delay] := by
  obtain ⟨p1, r1, e1, g1, p2, r2, e2, g2, p3, r3, e3, g3, p4, r4, e4, g4, gl⟩ := h
  have gl : r4 = [] := gl
  have g1 : p1 = [.int .i64 x.A] := g1
  have g2 : p2 = [.int .i64 x.B] := g2
  have g3 : p3 = [.int .i64 x.Per] := g3
  have g4 : p4 = [.int .i64 x.Delay] := g4
  subst gl
  subst g1 g2 g3 g4
  subst e4
  subst e3
  subst e2
  subst e1
  exact rfl
structure ApiTopo where
  Nodes : Int
  Station : (List Bool)
  Links : (List ApiLink)
  deriving Inhabited
def eApiTopo : Enc ApiTopo := eMap (fun s => (s.Nodes, s.Station, s.Links, ())) (ePair (eInt .i64) (ePair (eSl eBool) (ePair (eSl eApiLink) eUnit)))
theorem eApiTopo_el {φ : Fz} {cs : List Value} {x : ApiTopo} (h : eApiTopo.R φ cs x) : ∃ a153500 n153500 c153500, ∃ a153501 n153501 c153501, cs = [.int .i64 x.Nodes, .slice a153500 n153500 c153500, .slice a153501 n153501 c153501] ∧ RSl eBool φ (.slice a153500 n153500 c153500) x.Station ∧ RSl eApiLink φ (.slice a153501 n153501 c153501) x.Links := by
  obtain ⟨p1, r1, e1, g1, p2, r2, e2, g2, p3, r3, e3, g3, gl⟩ := h
  have gl : r3 = [] := gl
  have g1 : p1 = [.int .i64 x.Nodes] := g1
  obtain ⟨a2, n2, c2, g2, R2⟩ := g2
  obtain ⟨a3, n3, c3, g3, R3⟩ := g3
  subst gl
  subst g1 g2 g3
  subst e3
  subst e2
  subst e1
  exact ⟨a2, n2, c2, a3, n3, c3, rfl, R2, R3⟩
structure TopoEnd where
  Link : ApiLink
  port : Int
  deriving Inhabited
def eTopoEnd : Enc TopoEnd := eMap (fun s => (s.Link, s.port, ())) (ePair eApiLink (ePair (eInt .i64) eUnit))
theorem eTopoEnd_el {φ : Fz} {cs : List Value} {x : TopoEnd} (h : eTopoEnd.R φ cs x) : cs = [.int .i64 x.Link.A, .int .i64 x.Link.B, .int .i64 x.Link.Per, .int .i64 x.Link.Delay, .int .i64 x.port] := by
  obtain ⟨p1, r1, e1, g1, p2, r2, e2, g2, gl⟩ := h
  have gl : r2 = [] := gl
  obtain g1 := eApiLink_el g1
  have g2 : p2 = [.int .i64 x.port] := g2
  subst gl
  subst g1 g2
  subst e2
  subst e1
  exact rfl


/-! isochron/isochronlaw16.line -/
def m_isochronlaw16_line : R ApiTopo :=
  .ok ((ApiTopo.mk 4 [true, false, false, true] [(ApiLink.mk 0 1 8 50), (ApiLink.mk 1 2 8 0), (ApiLink.mk 2 3 80 7)]))

/-! isochron/topo.isNode -/
def m_topo_isNode (p114 : ApiTopo) (p117 : Int) : R Bool :=
  sh ((decide (0 ≤ p117)) && (decide (p117 < p114.Nodes))) fun (s123 : Bool) =>
  (.ok s123)

/-! isochron/topo.validLink -/
def m_topo_validLink_l1 (e99 : ApiLink) (p87 : ApiTopo) (p90 : Int) (rec256 : Int → R Bool) (s228 : Int) : R Bool :=
  if (decide (s228 < ((p87.Links.take (p90).toNat).length : Int))) then (bindR (idx (p87.Links.take (p90).toNat) s228) fun e262 =>
  sh ((decide (e262.A = e99.A)) && (decide (e262.B = e99.B))) fun (s270 : Bool) =>
  (sh (s270 || ((decide (e262.A = e99.B)) && (decide (e262.B = e99.A)))) fun (s274 : Bool) =>
  (if s274 then (if (!(!(decide (0 ≤ s228)))) then (.ok false)
  else (.ok true))
  else (rec256 (w64 (s228 + 1))))))
  else (.ok true)
def m_topo_validLink (p87 : ApiTopo) (p90 : Int) : R Bool :=
  bindR (idx p87.Links p90) fun e99 =>
  bindR (m_topo_isNode p87 (e99.A)) fun e129 =>
  sh (fun (s139 : Bool) => (sh (s139 && (decide (e99.A ≠ e99.B))) fun (s143 : Bool) =>
  (if (!s143) then (.ok false)
  else (bindR (idx p87.Station e99.A) fun e147 =>
  sh (fun (s155 : Bool) => (if (!s155) then (.ok false)
  else (sh ((decide (1 ≤ e99.Per)) && (decide (e99.Per ≤ 1000))) fun (s160 : Bool) =>
  (sh (s160 && (decide (0 ≤ e99.Delay))) fun (s164 : Bool) =>
  (sh (s164 && (decide (e99.Delay ≤ 10000))) fun (s168 : Bool) =>
  (if (!s168) then (.ok false)
  else (bindR (must (decide (0 ≤ p90 ∧ p90 ≤ (p87.Links.length : Int)))) fun _ =>
  loopM (m_topo_validLink_l1 e99 p87 p90) LL 0))))))) fun j295 =>
  (if (!e147) then (j295 true)
  else (bindR (idx p87.Station e99.B) fun e298 =>
  j295 (!e298))))))) fun j304 =>
  (if e129 then (bindR (m_topo_isNode p87 (e99.B)) fun e307 =>
  j304 e307)
  else (j304 false))

/-! (isochron/topo.end).from -/
def m_topo_end_from (p377 : TopoEnd) : R Int :=
  if (decide ((Int.tmod p377.port 2) = 0)) then (.ok (p377.Link.A))
  else (.ok (p377.Link.B))

/-! isochron/topo.degree -/
def m_topo_degree_l1 (p325 : ApiTopo) (p328 : Int) (rec556 : (Int × Int) → R Int) (s491 : Int × Int) : R Int :=
  if (decide (s491.1 < (p325.Links.length : Int))) then (bindR (idx p325.Links s491.1) fun e562 =>
  bindR (m_topo_end_from ((TopoEnd.mk e562 (w64 (2 * s491.1))))) fun e580 =>
  sh (fun (s587 : Int) => (bindR (m_topo_end_from ((TopoEnd.mk e562 (w64 ((w64 (2 * s491.1)) + 1))))) fun e603 =>
  sh (fun (s610 : Int) => (rec556 ((w64 (s491.1 + 1)), s610))) fun j613 =>
  (if (decide (e603 = p328)) then (j613 (w64 (s587 + 1)))
  else (j613 s587)))) fun j590 =>
  (if (decide (e580 = p328)) then (j590 (w64 (s491.2 + 1)))
  else (j590 s491.2)))
  else (.ok (s491.2))
def m_topo_degree (p325 : ApiTopo) (p328 : Int) : R Int :=
  loopM (m_topo_degree_l1 p325 p328) LL (0, 0)

/-! (isochron/topo.end).to -/
def m_topo_end_to (p713 : TopoEnd) : R Int :=
  bindR (m_topo_end_from p713) fun e718 =>
  .ok ((w64 ((w64 (p713.Link.A + p713.Link.B)) - e718)))

/-! slices.Index[[]int,int] -/
def m_slices_Index_int_int_l1 (p725 : (List Int)) (p727 : Int) (rec752 : Int → R Int) (s744 : Int) : R Int :=
  if (decide (s744 < (p725.length : Int))) then (bindR (idx p725 s744) fun e758 =>
  if (decide (p727 = e758)) then (.ok s744)
  else (rec752 (w64 (s744 + 1))))
  else (.ok ((-1)))
def m_slices_Index_int_int (p725 : (List Int)) (p727 : Int) : R Int :=
  loopM (m_slices_Index_int_int_l1 p725 p727) LL 0

/-! slices.Contains[[]int,int] -/
def m_slices_Contains_int_int (p722 : (List Int)) (p724 : Int) : R Bool :=
  bindR (m_slices_Index_int_int p722 p724) fun e762 =>
  .ok ((decide (0 ≤ e762)))

/-! isochron/topo.reach -/
def m_topo_reach_l1 (p3319 : ApiTopo) (p3323 : (List Int)) (rec5288 : (List Bool) → R (List Bool)) (rec5778 : (Int × (List Bool)) → R (List Bool)) (s5620 : Int × (List Bool)) : R (List Bool) :=
  if (decide (s5620.1 < (p3319.Links.length : Int))) then (bindR (idx p3319.Links s5620.1) fun e5784 =>
  bindR (m_topo_end_from ((TopoEnd.mk e5784 (w64 (2 * s5620.1))))) fun e5802 =>
  bindR (idx s5620.2 e5802) fun e5806 =>
  sh (fun (s5818 : Bool) => (sh (fun (s5827 : Bool) => (if s5827 then (bindR (m_topo_end_to ((TopoEnd.mk e5784 (w64 (2 * s5620.1))))) fun e5831 =>
  bindR (idx s5620.2 e5831) fun e5835 =>
  rec5288 (s5620.2.set (e5831).toNat true))
  else (bindR (m_topo_end_from ((TopoEnd.mk e5784 (w64 ((w64 (2 * s5620.1)) + 1))))) fun e5856 =>
  bindR (idx s5620.2 e5856) fun e5860 =>
  sh (fun (s5872 : Bool) => (sh (fun (s5881 : Bool) => (if s5881 then (bindR (m_topo_end_to ((TopoEnd.mk e5784 (w64 ((w64 (2 * s5620.1)) + 1))))) fun e5885 =>
  bindR (idx s5620.2 e5885) fun e5889 =>
  rec5288 (s5620.2.set (e5885).toNat true))
  else (rec5778 ((w64 (s5620.1 + 1)), s5620.2)))) fun j5901 =>
  (if s5872 then (bindR (m_slices_Contains_int_int p3323 ((w64 (Int.tdiv (w64 ((w64 (2 * s5620.1)) + 1)) 2)))) fun e5904 =>
  j5901 (!e5904))
  else (j5901 false)))) fun j5908 =>
  (if e5860 then (bindR (m_topo_end_to ((TopoEnd.mk e5784 (w64 ((w64 (2 * s5620.1)) + 1))))) fun e5911 =>
  bindR (idx s5620.2 e5911) fun e5915 =>
  j5908 (!e5915))
  else (j5908 false))))) fun j5918 =>
  (if s5818 then (bindR (m_slices_Contains_int_int p3323 ((w64 (Int.tdiv (w64 (2 * s5620.1)) 2)))) fun e5921 =>
  j5918 (!e5921))
  else (j5918 false)))) fun j5925 =>
  (if e5806 then (bindR (m_topo_end_to ((TopoEnd.mk e5784 (w64 (2 * s5620.1))))) fun e5928 =>
  bindR (idx s5620.2 e5928) fun e5932 =>
  j5925 (!e5932))
  else (j5925 false)))
  else (.ok (s5620.2))
def m_topo_reach_l2 (p3319 : ApiTopo) (p3323 : (List Int)) (rec5288 : (List Bool) → R (List Bool)) (s4640 : (List Bool)) : R (List Bool) :=
  loopM (m_topo_reach_l1 p3319 p3323 rec5288) LL (0, s4640)
def m_topo_reach (p3319 : ApiTopo) (p3322 : Int) (p3323 : (List Int)) : R (List Bool) :=
  bindR (must (decide (0 ≤ p3319.Nodes ∧ p3319.Nodes ≤ 1000000000))) fun _ =>
  bindR (idx (List.replicate (p3319.Nodes).toNat false) p3322) fun e3341 =>
  loopM (m_topo_reach_l2 p3319 p3323) LL ((List.replicate (p3319.Nodes).toNat false).set (p3322).toNat true)

/-! slices.Index[[]bool,bool] -/
def m_slices_Index_bool_bool_l1 (p5951 : (List Bool)) (p5953 : Bool) (rec5978 : Int → R Int) (s5970 : Int) : R Int :=
  if (decide (s5970 < (p5951.length : Int))) then (bindR (idx p5951 s5970) fun e5984 =>
  if (p5953 == e5984) then (.ok s5970)
  else (rec5978 (w64 (s5970 + 1))))
  else (.ok ((-1)))
def m_slices_Index_bool_bool (p5951 : (List Bool)) (p5953 : Bool) : R Int :=
  loopM (m_slices_Index_bool_bool_l1 p5951 p5953) LL 0

/-! slices.Contains[[]bool,bool] -/
def m_slices_Contains_bool_bool (p5948 : (List Bool)) (p5950 : Bool) : R Bool :=
  bindR (m_slices_Index_bool_bool p5948 p5950) fun e5988 =>
  .ok ((decide (0 ≤ e5988)))

/-! isochron/topo.Check -/
def m_topo_Check_l1 (p63 : ApiTopo) (rec6764 : Int → R Int) (s6712 : Int) : R Int :=
  if (decide (s6712 < (p63.Station.length : Int))) then (bindR (idx p63.Station s6712) fun e6770 =>
  sh (fun (s6784 : Bool) => (if s6784 then (.ok 260)
  else (rec6764 (w64 (s6712 + 1))))) fun j6788 =>
  (if e6770 then (bindR (m_topo_degree p63 s6712) fun e6791 =>
  if (decide (e6791 < 1)) then (j6788 true)
  else (bindR (m_topo_degree p63 s6712) fun e6796 =>
  j6788 (decide (2 < e6796))))
  else (j6788 false)))
  else (bindR (m_topo_reach p63 0 ([])) fun e6800 =>
  bindR (m_slices_Contains_bool_bool e6800 false) fun e6813 =>
  if e6813 then (.ok 260)
  else (.ok 0))
def m_topo_Check_l2 (p63 : ApiTopo) (rec6597 : Int → R Int) (s6378 : Int) : R Int :=
  if (decide (s6378 < (p63.Links.length : Int))) then (bindR (m_topo_validLink p63 s6378) fun e6603 =>
  if (!e6603) then (.ok 260)
  else (rec6597 (w64 (s6378 + 1))))
  else (loopM (m_topo_Check_l1 p63) LL 0)
def m_topo_Check (p63 : ApiTopo) : R Int :=
  sh ((decide (p63.Nodes < 2)) || (decide (12 < p63.Nodes))) fun (s71 : Bool) =>
  (sh (s71 || (decide ((p63.Station.length : Int) ≠ p63.Nodes))) fun (s75 : Bool) =>
  (sh (s75 || (decide (24 < (p63.Links.length : Int)))) fun (s79 : Bool) =>
  (if s79 then (.ok 260)
  else (loopM (m_topo_Check_l2 p63) LL 0))))

/-! isochron/topo.From -/
def m_topo_From (p51 : ApiTopo) (p54 : Int) : R (Int × Int) :=
  bindR (m_topo_Check p51) fun e6827 =>
  if (decide (e6827 ≠ 0)) then (.ok (0, e6827))
  else (sh ((decide (p54 < 0)) || (decide ((w64 (2 * (p51.Links.length : Int))) ≤ p54))) fun (s6833 : Bool) =>
  (if s6833 then (.ok (0, 2))
  else (bindR (idx p51.Links (w64 (Int.tdiv p54 2))) fun e6837 =>
  bindR (m_topo_end_from ((TopoEnd.mk e6837 p54))) fun e6840 =>
  .ok (e6840, 0))))

/-! isochron/topo.To -/
def m_topo_To (p6859 : ApiTopo) (p6862 : Int) : R (Int × Int) :=
  bindR (m_topo_Check p6859) fun e6871 =>
  if (decide (e6871 ≠ 0)) then (.ok (0, e6871))
  else (sh ((decide (p6862 < 0)) || (decide ((w64 (2 * (p6859.Links.length : Int))) ≤ p6862))) fun (s6877 : Bool) =>
  (if s6877 then (.ok (0, 2))
  else (bindR (idx p6859.Links (w64 (Int.tdiv p6862 2))) fun e6881 =>
  bindR (m_topo_end_to ((TopoEnd.mk e6881 p6862))) fun e6884 =>
  .ok (e6884, 0))))

/-! (isochron/topo.end).per -/
def m_topo_end_per (p6928 : TopoEnd) : R Int :=
  .ok (p6928.Link.Per)

/-! isochron/topo.Per -/
def m_topo_Per (p6903 : ApiTopo) (p6906 : Int) : R (Int × Int) :=
  bindR (m_topo_Check p6903) fun e6915 =>
  if (decide (e6915 ≠ 0)) then (.ok (0, e6915))
  else (sh ((decide (p6906 < 0)) || (decide ((w64 (2 * (p6903.Links.length : Int))) ≤ p6906))) fun (s6921 : Bool) =>
  (if s6921 then (.ok (0, 2))
  else (bindR (idx p6903.Links (w64 (Int.tdiv p6906 2))) fun e6925 =>
  bindR (m_topo_end_per ((TopoEnd.mk e6925 p6906))) fun e6933 =>
  .ok (e6933, 0))))

/-! (isochron/topo.end).delay -/
def m_topo_end_delay (p6977 : TopoEnd) : R Int :=
  .ok (p6977.Link.Delay)

/-! isochron/topo.Delay -/
def m_topo_Delay (p6952 : ApiTopo) (p6955 : Int) : R (Int × Int) :=
  bindR (m_topo_Check p6952) fun e6964 =>
  if (decide (e6964 ≠ 0)) then (.ok (0, e6964))
  else (sh ((decide (p6955 < 0)) || (decide ((w64 (2 * (p6952.Links.length : Int))) ≤ p6955))) fun (s6970 : Bool) =>
  (if s6970 then (.ok (0, 2))
  else (bindR (idx p6952.Links (w64 (Int.tdiv p6955 2))) fun e6974 =>
  bindR (m_topo_end_delay ((TopoEnd.mk e6974 p6955))) fun e6982 =>
  .ok (e6982, 0))))

/-! isochron/topo.Ports -/
def m_topo_Ports_l1 (p7366 : ApiTopo) (p7369 : Int) (rec7650 : (Int × (List Int)) → R ((List Int) × Int)) (s7569 : Int × (List Int)) : R ((List Int) × Int) :=
  if (decide (s7569.1 < (p7366.Links.length : Int))) then (bindR (idx p7366.Links s7569.1) fun e7656 =>
  bindR (m_topo_end_from ((TopoEnd.mk e7656 (w64 (2 * s7569.1))))) fun e7674 =>
  sh (fun (s7684 : (List Int)) => (bindR (m_topo_end_from ((TopoEnd.mk e7656 (w64 ((w64 (2 * s7569.1)) + 1))))) fun e7701 =>
  sh (fun (s7711 : (List Int)) => (rec7650 ((w64 (s7569.1 + 1)), s7711))) fun j7715 =>
  (if (decide (e7701 = p7369)) then (bindR (must (okLen (s7684.length + ([(w64 ((w64 (2 * s7569.1)) + 1))]).length))) fun _ =>
  j7715 (s7684 ++ ([(w64 ((w64 (2 * s7569.1)) + 1))])))
  else (j7715 s7684)))) fun j7688 =>
  (if (decide (e7674 = p7369)) then (bindR (must (okLen (s7569.2.length + ([(w64 (2 * s7569.1))]).length))) fun _ =>
  j7688 (s7569.2 ++ ([(w64 (2 * s7569.1))])))
  else (j7688 s7569.2)))
  else (.ok (s7569.2, 0))
def m_topo_Ports (p7366 : ApiTopo) (p7369 : Int) : R ((List Int) × Int) :=
  bindR (m_topo_Check p7366) fun e7378 =>
  if (decide (e7378 ≠ 0)) then (.ok ([], e7378))
  else (bindR (m_topo_isNode p7366 p7369) fun e7383 =>
  if (!e7383) then (.ok ([], 2))
  else (loopM (m_topo_Ports_l1 p7366 p7369) LL (0, [])))

/-! isochron/topo.Find -/
def m_topo_Find_l1 (p7750 : ApiTopo) (p7753 : Int) (p7754 : Int) (rec8111 : Int → R (Int × Int)) (s8012 : Int) : R (Int × Int) :=
  if (decide (s8012 < (p7750.Links.length : Int))) then (bindR (idx p7750.Links s8012) fun e8117 =>
  bindR (m_topo_end_from ((TopoEnd.mk e8117 (w64 (2 * s8012))))) fun e8135 =>
  sh (fun (s8145 : Bool) => (if s8145 then (.ok ((w64 (2 * s8012)), 0))
  else (bindR (m_topo_end_from ((TopoEnd.mk e8117 (w64 ((w64 (2 * s8012)) + 1))))) fun e8168 =>
  sh (fun (s8178 : Bool) => (if s8178 then (.ok ((w64 ((w64 (2 * s8012)) + 1)), 0))
  else (rec8111 (w64 (s8012 + 1))))) fun j8192 =>
  (if (decide (e8168 = p7753)) then (bindR (m_topo_end_to ((TopoEnd.mk e8117 (w64 ((w64 (2 * s8012)) + 1))))) fun e8195 =>
  j8192 (decide (e8195 = p7754)))
  else (j8192 false))))) fun j8199 =>
  (if (decide (e8135 = p7753)) then (bindR (m_topo_end_to ((TopoEnd.mk e8117 (w64 (2 * s8012))))) fun e8202 =>
  j8199 (decide (e8202 = p7754)))
  else (j8199 false)))
  else (.ok (0, 4))
def m_topo_Find (p7750 : ApiTopo) (p7753 : Int) (p7754 : Int) : R (Int × Int) :=
  bindR (m_topo_Check p7750) fun e7775 =>
  if (decide (e7775 ≠ 0)) then (.ok (0, e7775))
  else (bindR (m_topo_isNode p7750 p7753) fun e7784 =>
  sh (fun (s7794 : Bool) => (if s7794 then (.ok (0, 2))
  else (loopM (m_topo_Find_l1 p7750 p7753 p7754) LL 0))) fun j8212 =>
  (if (!e7784) then (j8212 true)
  else (bindR (m_topo_isNode p7750 p7754) fun e8215 =>
  j8212 (!e8215))))

/-! isochron/topo.Reach -/
def m_topo_Reach_l1 (j8482 : Bool → R ((List Bool) × Int)) (p8386 : ApiTopo) (p8390 : (List Int)) (rec8530 : Int → R ((List Bool) × Int)) (s8515 : Int) : R ((List Bool) × Int) :=
  if (decide (s8515 < (p8390.length : Int))) then (bindR (idx p8390 s8515) fun e8536 =>
  sh ((decide (e8536 < 0)) || (decide ((p8386.Links.length : Int) ≤ e8536))) fun (s8540 : Bool) =>
  (if s8540 then (j8482 (decide (0 ≤ s8515)))
  else (rec8530 (w64 (s8515 + 1)))))
  else (j8482 false)
def m_topo_Reach (p8386 : ApiTopo) (p8389 : Int) (p8390 : (List Int)) : R ((List Bool) × Int) :=
  bindR (m_topo_Check p8386) fun e8396 =>
  if (decide (e8396 ≠ 0)) then (.ok ([], e8396))
  else (bindR (m_topo_isNode p8386 p8389) fun e8401 =>
  sh (fun (s8469 : Bool) => (if s8469 then (.ok ([], 2))
  else (bindR (m_topo_reach p8386 p8389 p8390) fun e8473 =>
  .ok (e8473, 0)))) fun j8482 =>
  (if (!e8401) then (j8482 true)
  else (loopM (m_topo_Reach_l1 j8482 p8386 p8390) LL 0)))

/-! slices.Equal[[]int,int] -/
def m_slices_Equal_int_int_l1 (p8610 : (List Int)) (p8612 : (List Int)) (rec8648 : Int → R Bool) (s8637 : Int) : R Bool :=
  if (decide (s8637 < (p8610.length : Int))) then (bindR (idx p8610 s8637) fun e8654 =>
  bindR (idx p8612 s8637) fun e8657 =>
  if (decide (e8654 ≠ e8657)) then (.ok false)
  else (rec8648 (w64 (s8637 + 1))))
  else (.ok true)
def m_slices_Equal_int_int (p8610 : (List Int)) (p8612 : (List Int)) : R Bool :=
  if (decide ((p8610.length : Int) ≠ (p8612.length : Int))) then (.ok false)
  else (loopM (m_slices_Equal_int_int_l1 p8610 p8612) LL 0)

/-! slices.Equal[[]bool,bool] -/
def m_slices_Equal_bool_bool_l1 (p8684 : (List Bool)) (p8686 : (List Bool)) (rec8722 : Int → R Bool) (s8711 : Int) : R Bool :=
  if (decide (s8711 < (p8684.length : Int))) then (bindR (idx p8684 s8711) fun e8728 =>
  bindR (idx p8686 s8711) fun e8731 =>
  if (!(e8728 == e8731)) then (.ok false)
  else (rec8722 (w64 (s8711 + 1))))
  else (.ok true)
def m_slices_Equal_bool_bool (p8684 : (List Bool)) (p8686 : (List Bool)) : R Bool :=
  if (decide ((p8684.length : Int) ≠ (p8686.length : Int))) then (.ok false)
  else (loopM (m_slices_Equal_bool_bool_l1 p8684 p8686) LL 0)

/-! isochron/isochronlaw16.wakes -/
def m_isochronlaw16_wakes : R Bool :=
  bindR (m_isochronlaw16_line) fun e34 =>
  bindR (m_topo_From e34 0) fun e6855 =>
  bindR (m_topo_To e34 3) fun e6899 =>
  bindR (m_topo_Per e34 5) fun e6948 =>
  bindR (m_topo_Delay e34 4) fun e6997 =>
  bindR (m_topo_Ports e34 1) fun e7741 =>
  bindR (m_topo_Find e34 2 1) fun e8219 =>
  bindR (m_topo_Reach e34 0 ([1])) fun e8553 =>
  bindR (m_topo_From e34 6) fun e8562 =>
  sh ((decide (e6855.2 = 0)) && (decide (e6899.2 = 0))) fun (s8567 : Bool) =>
  (sh (s8567 && (decide (e6948.2 = 0))) fun (s8571 : Bool) =>
  (sh (s8571 && (decide (e6997.2 = 0))) fun (s8575 : Bool) =>
  (sh (s8575 && (decide (e7741.2 = 0))) fun (s8579 : Bool) =>
  (sh (s8579 && (decide (e8219.2 = 0))) fun (s8583 : Bool) =>
  (sh (s8583 && (decide (e8553.2 = 0))) fun (s8587 : Bool) =>
  (sh (s8587 && (decide (e6855.1 = 0))) fun (s8591 : Bool) =>
  (sh (s8591 && (decide (e6899.1 = 1))) fun (s8595 : Bool) =>
  (sh (s8595 && (decide (e6948.1 = 80))) fun (s8599 : Bool) =>
  (sh (s8599 && (decide (e6997.1 = 7))) fun (s8603 : Bool) =>
  (sh (fun (s8673 : Bool) => (sh (s8673 && (decide (e8219.1 = 3))) fun (s8677 : Bool) =>
  (sh (fun (s8747 : Bool) => (sh (s8747 && (decide (e8562.2 = 2))) fun (s8751 : Bool) =>
  (sh (fun (s8760 : Bool) => (.ok s8760)) fun j8763 =>
  (if s8751 then (bindR (m_topo_Check ((ApiTopo.mk 0 [] []))) fun e8766 =>
  j8763 (decide (e8766 = 260)))
  else (j8763 false))))) fun j8773 =>
  (if s8677 then (bindR (m_slices_Equal_bool_bool (e8553.1) ([true, true, false, false])) fun e8786 =>
  j8773 e8786)
  else (j8773 false))))) fun j8793 =>
  (if s8603 then (bindR (m_slices_Equal_int_int (e7741.1) ([1, 2])) fun e8806 =>
  j8793 e8806)
  else (j8793 false))))))))))))

/-! isochron/isochronref16.pick -/
def m_isochronref16_pick (p8901 : (List Int)) (p8903 : Int) : R Int :=
  if (decide (p8903 < (p8901.length : Int))) then (bindR (idx p8901 p8903) fun e8905 =>
  .ok ((w64 e8905)))
  else (.ok 0)

/-! isochron/isochronref16.node -/
def m_isochronref16_node (p8937 : ApiTopo) (p8940 : Int) : R Bool :=
  sh ((decide (0 ≤ p8940)) && (decide (p8940 < p8937.Nodes))) fun (s8946 : Bool) =>
  (.ok s8946)

/-! isochron/isochronref16.link -/
def m_isochronref16_link (p8925 : ApiTopo) (p8928 : ApiLink) : R Bool :=
  bindR (m_isochronref16_node p8925 (p8928.A)) fun e8952 =>
  sh (fun (s8962 : Bool) => (sh (s8962 || (decide (p8928.A = p8928.B))) fun (s8966 : Bool) =>
  (sh (fun (s8978 : Bool) => (if s8978 then (.ok false)
  else (sh ((decide (1 ≤ p8928.Per)) && (decide (p8928.Per ≤ 1000))) fun (s8983 : Bool) =>
  (sh (s8983 && (decide (0 ≤ p8928.Delay))) fun (s8987 : Bool) =>
  (sh (s8987 && (decide (p8928.Delay ≤ 10000))) fun (s8991 : Bool) =>
  (.ok s8991)))))) fun j9003 =>
  (if s8966 then (j9003 true)
  else (bindR (idx p8925.Station p8928.A) fun e9006 =>
  if e9006 then (bindR (idx p8925.Station p8928.B) fun e9010 =>
  j9003 e9010)
  else (j9003 false)))))) fun j9016 =>
  (if (!e8952) then (j9016 true)
  else (bindR (m_isochronref16_node p8925 (p8928.B)) fun e9019 =>
  j9016 (!e9019)))

/-! isochron/isochronref16.Joins -/
def m_isochronref16_Joins (p9040 : ApiLink) (p9041 : Int) (p9042 : Int) : R Bool :=
  sh ((decide (p9040.A = p9041)) && (decide (p9040.B = p9042))) fun (s9048 : Bool) =>
  (sh (s9048 || ((decide (p9040.A = p9042)) && (decide (p9040.B = p9041)))) fun (s9052 : Bool) =>
  (.ok s9052))

/-! (isochron/isochronref16.Draft).with -/
def m_isochronref16_Draft_with_l1 (e9257 : Int) (e9261 : Int) (p9232 : ApiTopo) (p9239 : Int) (p9240 : Int) (rec9349 : (Int × (List ApiLink)) → R ApiTopo) (s9327 : Int × (List ApiLink)) : R ApiTopo :=
  if (decide (s9327.1 < (p9232.Links.length : Int))) then (bindR (idx s9327.2 s9327.1) fun e9355 =>
  bindR (m_isochronref16_Joins e9355 p9239 p9240) fun e9358 =>
  if e9358 then (.ok ((ApiTopo.mk p9232.Nodes p9232.Station s9327.2)))
  else (rec9349 ((w64 (s9327.1 + 1)), s9327.2)))
  else (bindR (must (okLen (s9327.2.length + ([(ApiLink.mk p9239 p9240 (w64 (1 + (Int.tmod e9257 20))) (Int.tmod e9261 50))]).length))) fun _ =>
  .ok ((ApiTopo.mk p9232.Nodes p9232.Station (s9327.2 ++ ([(ApiLink.mk p9239 p9240 (w64 (1 + (Int.tmod e9257 20))) (Int.tmod e9261 50))])))))
def m_isochronref16_Draft_with (p9227 : Isochronref16Draft) (p9232 : ApiTopo) (p9239 : Int) (p9240 : Int) : R ApiTopo :=
  bindR (m_isochronref16_pick (p9227.Pers) ((p9232.Links.length : Int))) fun e9257 =>
  bindR (m_isochronref16_pick (p9227.Delays) ((p9232.Links.length : Int))) fun e9261 =>
  sh (fun (s9278 : Bool) => (if s9278 then (.ok p9232)
  else (loopM (m_isochronref16_Draft_with_l1 e9257 e9261 p9232 p9239 p9240) LL (0, p9232.Links)))) fun j9372 =>
  (if (decide ((p9232.Links.length : Int) = 24)) then (j9372 true)
  else (bindR (m_isochronref16_link p9232 ((ApiLink.mk p9239 p9240 (w64 (1 + (Int.tmod e9257 20))) (Int.tmod e9261 50)))) fun e9379 =>
  j9372 (!e9379)))

/-! (isochron/isochronref16.Draft).Topo -/
def m_isochronref16_Draft_Topo_l1 (p80237 : Isochronref16Draft) (rec151071 : (Int × Int × (List Bool) × (List ApiLink)) → R ApiTopo) (s151032 : Int × Int × (List Bool) × (List ApiLink)) : R ApiTopo :=
  sh ((decide ((w64 (s151032.1 + 1)) < (p80237.Chords.length : Int))) && (decide (s151032.1 < 12))) fun (s151077 : Bool) =>
  (if s151077 then (bindR (idx p80237.Chords s151032.1) fun e151081 =>
  bindR (must (decide ((w64 (1 + (w64 (Int.tmod p80237.Bridges 6)))) ≠ 0))) fun _ =>
  bindR (idx p80237.Chords (w64 (s151032.1 + 1))) fun e151085 =>
  bindR (must (decide ((w64 (1 + (w64 (Int.tmod p80237.Bridges 6)))) ≠ 0))) fun _ =>
  bindR (m_isochronref16_Draft_with p80237 ((ApiTopo.mk s151032.2.1 s151032.2.2.1 s151032.2.2.2)) ((Int.tmod (w64 e151081) (w64 (1 + (w64 (Int.tmod p80237.Bridges 6)))))) ((Int.tmod (w64 e151085) (w64 (1 + (w64 (Int.tmod p80237.Bridges 6))))))) fun e151089 =>
  rec151071 ((w64 (s151032.1 + 2)), e151089.Nodes, e151089.Station, e151089.Links))
  else (.ok ((ApiTopo.mk s151032.2.1 s151032.2.2.1 s151032.2.2.2))))
def m_isochronref16_Draft_Topo_l2 (p80237 : Isochronref16Draft) (rec150902 : (Int × Int × (List Bool) × (List ApiLink)) → R ApiTopo) (s150694 : Int × Int × (List Bool) × (List ApiLink)) : R ApiTopo :=
  if (decide (s150694.1 < (w64 (2 + (w64 (Int.tmod p80237.Stations 5)))))) then (bindR (m_isochronref16_pick (p80237.Homes) ((w64 ((w64 (2 * s150694.1)) + 1)))) fun e150908 =>
  sh (fun (s150931 : Int × (List Bool) × (List ApiLink)) => (rec150902 ((w64 (s150694.1 + 1)), s150931.1, s150931.2.1, s150931.2.2))) fun j150939 =>
  (if (decide (0 < (Int.tmod e150908 3))) then (bindR (m_isochronref16_pick (p80237.Homes) ((w64 ((w64 (2 * s150694.1)) + 1)))) fun e150941 =>
  bindR (must (decide ((w64 (1 + (w64 (Int.tmod p80237.Bridges 6)))) ≠ 0))) fun _ =>
  bindR (m_isochronref16_Draft_with p80237 ((ApiTopo.mk s150694.2.1 s150694.2.2.1 s150694.2.2.2)) ((w64 ((w64 (1 + (w64 (Int.tmod p80237.Bridges 6)))) + s150694.1))) ((Int.tmod e150941 (w64 (1 + (w64 (Int.tmod p80237.Bridges 6))))))) fun e150946 =>
  j150939 (e150946.Nodes, e150946.Station, e150946.Links))
  else (j150939 (s150694.2.1, s150694.2.2.1, s150694.2.2.2))))
  else (loopM (m_isochronref16_Draft_Topo_l1 p80237) LL (0, s150694.2.1, s150694.2.2.1, s150694.2.2.2))
def m_isochronref16_Draft_Topo_l3 (p80237 : Isochronref16Draft) (rec150232 : (Int × Int × (List Bool) × (List ApiLink)) → R ApiTopo) (s149339 : Int × Int × (List Bool) × (List ApiLink)) : R ApiTopo :=
  if (decide (s149339.1 < (w64 (2 + (w64 (Int.tmod p80237.Stations 5)))))) then (bindR (m_isochronref16_pick (p80237.Homes) ((w64 (2 * s149339.1)))) fun e150238 =>
  bindR (must (decide ((w64 (1 + (w64 (Int.tmod p80237.Bridges 6)))) ≠ 0))) fun _ =>
  bindR (m_isochronref16_Draft_with p80237 ((ApiTopo.mk s149339.2.1 s149339.2.2.1 s149339.2.2.2)) ((w64 ((w64 (1 + (w64 (Int.tmod p80237.Bridges 6)))) + s149339.1))) ((Int.tmod e150238 (w64 (1 + (w64 (Int.tmod p80237.Bridges 6))))))) fun e150243 =>
  rec150232 ((w64 (s149339.1 + 1)), e150243.Nodes, e150243.Station, e150243.Links))
  else (sh ((decide (2 < (w64 (1 + (w64 (Int.tmod p80237.Bridges 6)))))) && (decide ((Int.tmod p80237.Bridges 2) = 0))) fun (s150257 : Bool) =>
  (sh (fun (s150273 : Int × (List Bool) × (List ApiLink)) => (loopM (m_isochronref16_Draft_Topo_l2 p80237) LL (0, s150273.1, s150273.2.1, s150273.2.2))) fun j150281 =>
  (if s150257 then (bindR (m_isochronref16_Draft_with p80237 ((ApiTopo.mk s149339.2.1 s149339.2.2.1 s149339.2.2.2)) ((w64 ((w64 (1 + (w64 (Int.tmod p80237.Bridges 6)))) - 1))) 0) fun e151107 =>
  j150281 (e151107.Nodes, e151107.Station, e151107.Links))
  else (j150281 (s149339.2.1, s149339.2.2.1, s149339.2.2.2)))))
def m_isochronref16_Draft_Topo_l4 (p80237 : Isochronref16Draft) (rec147540 : (Int × Int × (List Bool) × (List ApiLink)) → R ApiTopo) (s143955 : Int × Int × (List Bool) × (List ApiLink)) : R ApiTopo :=
  if (decide (s143955.1 < (w64 (1 + (w64 (Int.tmod p80237.Bridges 6)))))) then (bindR (m_isochronref16_Draft_with p80237 ((ApiTopo.mk s143955.2.1 s143955.2.2.1 s143955.2.2.2)) ((w64 (s143955.1 - 1))) (s143955.1)) fun e147546 =>
  rec147540 ((w64 (s143955.1 + 1)), e147546.Nodes, e147546.Station, e147546.Links))
  else (loopM (m_isochronref16_Draft_Topo_l3 p80237) LL (0, s143955.2.1, s143955.2.2.1, s143955.2.2.2))
def m_isochronref16_Draft_Topo_l5 (p80237 : Isochronref16Draft) (rec132281 : (Int × (List Bool)) → R ApiTopo) (s113440 : Int × (List Bool)) : R ApiTopo :=
  if (decide (s113440.1 < (w64 ((w64 (1 + (w64 (Int.tmod p80237.Bridges 6)))) + (w64 (2 + (w64 (Int.tmod p80237.Stations 5)))))))) then (bindR (must (okLen (s113440.2.length + ([(decide ((w64 (1 + (w64 (Int.tmod p80237.Bridges 6)))) ≤ s113440.1))]).length))) fun _ =>
  rec132281 ((w64 (s113440.1 + 1)), (s113440.2 ++ ([(decide ((w64 (1 + (w64 (Int.tmod p80237.Bridges 6)))) ≤ s113440.1))]))))
  else (loopM (m_isochronref16_Draft_Topo_l4 p80237) LL (1, (w64 ((w64 (1 + (w64 (Int.tmod p80237.Bridges 6)))) + (w64 (2 + (w64 (Int.tmod p80237.Stations 5)))))), s113440.2, []))
def m_isochronref16_Draft_Topo (p80237 : Isochronref16Draft) : R ApiTopo :=
  loopM (m_isochronref16_Draft_Topo_l5 p80237) LL (0, [])

/-! (isochron/topo.end).back -/
def m_topo_end_back (p151218 : TopoEnd) : R Int :=
  .ok ((bitXor .i64 p151218.port 1))

/-! isochron/topo.Back -/
def m_topo_Back (p151193 : ApiTopo) (p151196 : Int) : R (Int × Int) :=
  bindR (m_topo_Check p151193) fun e151205 =>
  if (decide (e151205 ≠ 0)) then (.ok (0, e151205))
  else (sh ((decide (p151196 < 0)) || (decide ((w64 (2 * (p151193.Links.length : Int))) ≤ p151196))) fun (s151211 : Bool) =>
  (if s151211 then (.ok (0, 2))
  else (bindR (idx p151193.Links (w64 (Int.tdiv p151196 2))) fun e151215 =>
  bindR (m_topo_end_back ((TopoEnd.mk e151215 p151196))) fun e151223 =>
  .ok (e151223, 0))))

/-! isochron/isochronlaw16.TopoTurns -/
def m_isochronlaw16_TopoTurns_l1 (e151125 : ApiTopo) (e153036 : ((List Int) × Int)) (rec153030 : ((List Int) × Int) → R Bool) (s152562 : (List Int) × Int) (rec153346 : ((List Int) × Int) → R Bool) (s153249 : (List Int) × Int) : R Bool :=
  if (decide (s153249.2 < (e153036.1.length : Int))) then (bindR (idx s153249.1 s153249.2) fun e153352 =>
  bindR (m_topo_From e151125 e153352) fun e153355 =>
  bindR (m_topo_To e151125 e153352) fun e153359 =>
  bindR (m_topo_Back e151125 e153352) fun e153363 =>
  bindR (m_topo_From e151125 (e153363.1)) fun e153367 =>
  bindR (m_topo_Back e151125 (e153363.1)) fun e153371 =>
  bindR (m_topo_Find e151125 (e153355.1) (e153359.1)) fun e153375 =>
  sh ((decide (e153355.2 ≠ 0)) || (decide (e153359.2 ≠ 0))) fun (s153380 : Bool) =>
  (sh (s153380 || (decide (e153363.2 ≠ 0))) fun (s153384 : Bool) =>
  (sh (s153384 || (decide (e153367.2 ≠ 0))) fun (s153388 : Bool) =>
  (sh (s153388 || (decide (e153371.2 ≠ 0))) fun (s153392 : Bool) =>
  (sh (s153392 || (decide (e153375.2 ≠ 0))) fun (s153396 : Bool) =>
  (sh (s153396 || (decide (e153355.1 ≠ s152562.2))) fun (s153400 : Bool) =>
  (sh (s153400 || (decide (e153367.1 ≠ e153359.1))) fun (s153404 : Bool) =>
  (sh (s153404 || (decide (e153371.1 ≠ e153352))) fun (s153408 : Bool) =>
  (sh (s153408 || (decide (e153375.1 ≠ e153352))) fun (s153412 : Bool) =>
  (if s153412 then (.ok false)
  else (rec153346 (s153249.1, (w64 (s153249.2 + 1))))))))))))))
  else (bindR (must (okLen (s152562.1.length + s153249.1.length))) fun _ =>
  rec153030 ((s152562.1 ++ s153249.1), (w64 (s152562.2 + 1))))
def m_isochronlaw16_TopoTurns_l2 (e151125 : ApiTopo) (e153452 : (List Int)) (rec153486 : ((List Int) × Int) → R Bool) (s153477 : (List Int) × Int) : R Bool :=
  if (decide (s153477.2 < (e153452.length : Int))) then (bindR (idx s153477.1 s153477.2) fun e153492 =>
  if (decide (e153492 ≠ s153477.2)) then (.ok false)
  else (rec153486 (s153477.1, (w64 (s153477.2 + 1)))))
  else (.ok ((decide ((s153477.1.length : Int) = (w64 (2 * (e151125.Links.length : Int)))))))
def m_isochronlaw16_TopoTurns_l3 (e151125 : ApiTopo) (rec153030 : ((List Int) × Int) → R Bool) (s152562 : (List Int) × Int) : R Bool :=
  if (decide (s152562.2 < e151125.Nodes)) then (bindR (m_topo_Ports e151125 (s152562.2)) fun e153036 =>
  sh (fun (s153052 : Bool) => (if s153052 then (.ok false)
  else (loopM (m_isochronlaw16_TopoTurns_l1 e151125 e153036 rec153030 s152562) LL (e153036.1, 0)))) fun j153444 =>
  (if (decide (e153036.2 ≠ 0)) then (j153444 true)
  else (bindR (idx e151125.Station s152562.2) fun e153447 =>
  if e153447 then (if (decide ((e153036.1.length : Int) < 1)) then (j153444 true)
  else (j153444 (decide (2 < (e153036.1.length : Int)))))
  else (j153444 false))))
  else (bindR (m_sort (s152562.1)) fun e153452 =>
  loopM (m_isochronlaw16_TopoTurns_l2 e151125 e153452) LL (e153452, 0))
def m_isochronlaw16_TopoTurns (p1 : Isochronref16Draft) : R Bool :=
  bindR (m_isochronlaw16_wakes) fun e8840 =>
  if (!e8840) then (.ok false)
  else (bindR (m_isochronref16_Draft_Topo p1) fun e151125 =>
  bindR (m_topo_Check e151125) fun e151145 =>
  if (decide (e151145 ≠ 0)) then (.ok false)
  else (loopM (m_isochronlaw16_TopoTurns_l3 e151125) LL ([], 0)))
end Go.AM
