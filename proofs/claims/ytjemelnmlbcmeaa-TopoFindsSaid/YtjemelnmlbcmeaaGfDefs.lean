/- Printed: functions of the given program as functions over plain data, and that the machine does what they say; no claim of its own; no condition. -/
import Derived.Test.YtjemelnmlbcmeaaLfK
set_option maxRecDepth 100000
set_option maxHeartbeats 4000000
set_option linter.unusedVariables false
set_option linter.unusedSimpArgs false
namespace Go.AM
open Go

structure ApiLink where
  A : Int
  B : Int
  Per : Int
  Delay : Int
  deriving Inhabited
def eApiLink : Enc ApiLink := eMap (fun s => (s.A, s.B, s.Per, s.Delay, ())) (ePair (eInt .i64) (ePair (eInt .i64) (ePair (eInt .i64) (ePair (eInt .i64) eUnit))))
theorem eApiLink_el {φ : Fz} {cs : List Value} {x : ApiLink} (h : eApiLink.R φ cs x) : cs = [.int .i64 x.A, .int .i64 x.B, .int .i64 x.Per, .int .i64 x.Delay] := by
  obtain ⟨p1, r1, e1, g1, p2, r2, e2, g2, p3, r3, e3, g3, p4, r4, e4, g4, gl⟩ := h
  have gl : r4 = [] := gl
  have g1 : p1 = [.int .i64 x.A] := g1
  have g2 : p2 = [.int .i64 x.B] := g2
  have g3 : p3 = [.int .i64 x.Per] := g3
  have g4 : p4 = [.int .i64 x.Delay] := g4
  subst gl
  subst g1 g2 g3 g4
  subst e4
  subst e3
  subst e2
  subst e1
  exact rfl
structure ApiTopo where
  Nodes : Int
  Station : (List Bool)
  Links : (List ApiLink)
  deriving Inhabited
def eApiTopo : Enc ApiTopo := eMap (fun s => (s.Nodes, s.Station, s.Links, ())) (ePair (eInt .i64) (ePair (eSl eBool) (ePair (eSl eApiLink) eUnit)))
theorem eApiTopo_el {φ : Fz} {cs : List Value} {x : ApiTopo} (h : eApiTopo.R φ cs x) : ∃ a13156 n13156 c13156, ∃ a13157 n13157 c13157, cs = [.int .i64 x.Nodes, .slice a13156 n13156 c13156, .slice a13157 n13157 c13157] ∧ RSl eBool φ (.slice a13156 n13156 c13156) x.Station ∧ RSl eApiLink φ (.slice a13157 n13157 c13157) x.Links := by
  obtain ⟨p1, r1, e1, g1, p2, r2, e2, g2, p3, r3, e3, g3, gl⟩ := h
  have gl : r3 = [] := gl
  have g1 : p1 = [.int .i64 x.Nodes] := g1
  obtain ⟨a2, n2, c2, g2, R2⟩ := g2
  obtain ⟨a3, n3, c3, g3, R3⟩ := g3
  subst gl
  subst g1 g2 g3
  subst e3
  subst e2
  subst e1
  exact ⟨a2, n2, c2, a3, n3, c3, rfl, R2, R3⟩
structure TopoEnd where
  Link : ApiLink
  port : Int
  deriving Inhabited
def eTopoEnd : Enc TopoEnd := eMap (fun s => (s.Link, s.port, ())) (ePair eApiLink (ePair (eInt .i64) eUnit))
theorem eTopoEnd_el {φ : Fz} {cs : List Value} {x : TopoEnd} (h : eTopoEnd.R φ cs x) : cs = [.int .i64 x.Link.A, .int .i64 x.Link.B, .int .i64 x.Link.Per, .int .i64 x.Link.Delay, .int .i64 x.port] := by
  obtain ⟨p1, r1, e1, g1, p2, r2, e2, g2, gl⟩ := h
  have gl : r2 = [] := gl
  obtain g1 := eApiLink_el g1
  have g2 : p2 = [.int .i64 x.port] := g2
  subst gl
  subst g1 g2
  subst e2
  subst e1
  exact rfl


/-! isochron/isochronlaw16.line -/
def m_isochronlaw16_line : R ApiTopo :=
  .ok ((ApiTopo.mk 4 [true, false, false, true] [(ApiLink.mk 0 1 8 50), (ApiLink.mk 1 2 8 0), (ApiLink.mk 2 3 80 7)]))

/-! isochron/topo.isNode -/
def m_topo_isNode (p114 : ApiTopo) (p117 : Int) : R Bool :=
  sh ((decide (0 ≤ p117)) && (decide (p117 < p114.Nodes))) fun (s123 : Bool) =>
  (.ok s123)

/-! isochron/topo.validLink -/
def m_topo_validLink_l1 (e99 : ApiLink) (p87 : ApiTopo) (p90 : Int) (rec256 : Int → R Bool) (s228 : Int) : R Bool :=
  if (decide (s228 < ((p87.Links.take (p90).toNat).length : Int))) then (bindR (idx (p87.Links.take (p90).toNat) s228) fun e262 =>
  sh ((decide (e262.A = e99.A)) && (decide (e262.B = e99.B))) fun (s270 : Bool) =>
  (sh (s270 || ((decide (e262.A = e99.B)) && (decide (e262.B = e99.A)))) fun (s274 : Bool) =>
  (if s274 then (if (!(!(decide (0 ≤ s228)))) then (.ok false)
  else (.ok true))
  else (rec256 (w64 (s228 + 1))))))
  else (.ok true)
def m_topo_validLink (p87 : ApiTopo) (p90 : Int) : R Bool :=
  bindR (idx p87.Links p90) fun e99 =>
  bindR (m_topo_isNode p87 (e99.A)) fun e129 =>
  sh (fun (s139 : Bool) => (sh (s139 && (decide (e99.A ≠ e99.B))) fun (s143 : Bool) =>
  (if (!s143) then (.ok false)
  else (bindR (idx p87.Station e99.A) fun e147 =>
  sh (fun (s155 : Bool) => (if (!s155) then (.ok false)
  else (sh ((decide (1 ≤ e99.Per)) && (decide (e99.Per ≤ 1000))) fun (s160 : Bool) =>
  (sh (s160 && (decide (0 ≤ e99.Delay))) fun (s164 : Bool) =>
  (sh (s164 && (decide (e99.Delay ≤ 10000))) fun (s168 : Bool) =>
  (if (!s168) then (.ok false)
  else (bindR (must (decide (0 ≤ p90 ∧ p90 ≤ (p87.Links.length : Int)))) fun _ =>
  loopM (m_topo_validLink_l1 e99 p87 p90) LL 0))))))) fun j295 =>
  (if (!e147) then (j295 true)
  else (bindR (idx p87.Station e99.B) fun e298 =>
  j295 (!e298))))))) fun j304 =>
  (if e129 then (bindR (m_topo_isNode p87 (e99.B)) fun e307 =>
  j304 e307)
  else (j304 false))

/-! (isochron/topo.end).from -/
def m_topo_end_from (p377 : TopoEnd) : R Int :=
  if (decide ((Int.tmod p377.port 2) = 0)) then (.ok (p377.Link.A))
  else (.ok (p377.Link.B))

/-! isochron/topo.degree -/
def m_topo_degree_l1 (p325 : ApiTopo) (p328 : Int) (rec556 : (Int × Int) → R Int) (s491 : Int × Int) : R Int :=
  if (decide (s491.1 < (p325.Links.length : Int))) then (bindR (idx p325.Links s491.1) fun e562 =>
  bindR (m_topo_end_from ((TopoEnd.mk e562 (w64 (2 * s491.1))))) fun e580 =>
  sh (fun (s587 : Int) => (bindR (m_topo_end_from ((TopoEnd.mk e562 (w64 ((w64 (2 * s491.1)) + 1))))) fun e603 =>
  sh (fun (s610 : Int) => (rec556 ((w64 (s491.1 + 1)), s610))) fun j613 =>
  (if (decide (e603 = p328)) then (j613 (w64 (s587 + 1)))
  else (j613 s587)))) fun j590 =>
  (if (decide (e580 = p328)) then (j590 (w64 (s491.2 + 1)))
  else (j590 s491.2)))
  else (.ok (s491.2))
def m_topo_degree (p325 : ApiTopo) (p328 : Int) : R Int :=
  loopM (m_topo_degree_l1 p325 p328) LL (0, 0)

/-! (isochron/topo.end).to -/
def m_topo_end_to (p722 : TopoEnd) : R Int :=
  bindR (m_topo_end_from p722) fun e727 =>
  .ok ((w64 ((w64 (p722.Link.A + p722.Link.B)) - e727)))

/-! slices.Index[[]int,int] -/
def m_slices_Index_int_int_l1 (p746 : (List Int)) (p748 : Int) (rec773 : Int → R Int) (s765 : Int) : R Int :=
  if (decide (s765 < (p746.length : Int))) then (bindR (idx p746 s765) fun e779 =>
  if (decide (p748 = e779)) then (.ok s765)
  else (rec773 (w64 (s765 + 1))))
  else (.ok ((-1)))
def m_slices_Index_int_int (p746 : (List Int)) (p748 : Int) : R Int :=
  loopM (m_slices_Index_int_int_l1 p746 p748) LL 0

/-! slices.Contains[[]int,int] -/
def m_slices_Contains_int_int (p743 : (List Int)) (p745 : Int) : R Bool :=
  bindR (m_slices_Index_int_int p743 p745) fun e783 =>
  .ok ((decide (0 ≤ e783)))

/-! isochron/topo.reach -/
def m_topo_reach_l1 (p3319 : ApiTopo) (p3323 : (List Int)) (rec5288 : (List Bool) → R (List Bool)) (rec5778 : (Int × (List Bool)) → R (List Bool)) (s5620 : Int × (List Bool)) : R (List Bool) :=
  if (decide (s5620.1 < (p3319.Links.length : Int))) then (bindR (idx p3319.Links s5620.1) fun e5784 =>
  bindR (m_topo_end_from ((TopoEnd.mk e5784 (w64 (2 * s5620.1))))) fun e5802 =>
  bindR (idx s5620.2 e5802) fun e5806 =>
  sh (fun (s5818 : Bool) => (sh (fun (s5827 : Bool) => (if s5827 then (bindR (m_topo_end_to ((TopoEnd.mk e5784 (w64 (2 * s5620.1))))) fun e5831 =>
  bindR (idx s5620.2 e5831) fun e5835 =>
  rec5288 (s5620.2.set (e5831).toNat true))
  else (bindR (m_topo_end_from ((TopoEnd.mk e5784 (w64 ((w64 (2 * s5620.1)) + 1))))) fun e5856 =>
  bindR (idx s5620.2 e5856) fun e5860 =>
  sh (fun (s5872 : Bool) => (sh (fun (s5881 : Bool) => (if s5881 then (bindR (m_topo_end_to ((TopoEnd.mk e5784 (w64 ((w64 (2 * s5620.1)) + 1))))) fun e5885 =>
  bindR (idx s5620.2 e5885) fun e5889 =>
  rec5288 (s5620.2.set (e5885).toNat true))
  else (rec5778 ((w64 (s5620.1 + 1)), s5620.2)))) fun j5901 =>
  (if s5872 then (bindR (m_slices_Contains_int_int p3323 ((w64 (Int.tdiv (w64 ((w64 (2 * s5620.1)) + 1)) 2)))) fun e5904 =>
  j5901 (!e5904))
  else (j5901 false)))) fun j5908 =>
  (if e5860 then (bindR (m_topo_end_to ((TopoEnd.mk e5784 (w64 ((w64 (2 * s5620.1)) + 1))))) fun e5911 =>
  bindR (idx s5620.2 e5911) fun e5915 =>
  j5908 (!e5915))
  else (j5908 false))))) fun j5918 =>
  (if s5818 then (bindR (m_slices_Contains_int_int p3323 ((w64 (Int.tdiv (w64 (2 * s5620.1)) 2)))) fun e5921 =>
  j5918 (!e5921))
  else (j5918 false)))) fun j5925 =>
  (if e5806 then (bindR (m_topo_end_to ((TopoEnd.mk e5784 (w64 (2 * s5620.1))))) fun e5928 =>
  bindR (idx s5620.2 e5928) fun e5932 =>
  j5925 (!e5932))
  else (j5925 false)))
  else (.ok (s5620.2))
def m_topo_reach_l2 (p3319 : ApiTopo) (p3323 : (List Int)) (rec5288 : (List Bool) → R (List Bool)) (s4640 : (List Bool)) : R (List Bool) :=
  loopM (m_topo_reach_l1 p3319 p3323 rec5288) LL (0, s4640)
def m_topo_reach (p3319 : ApiTopo) (p3322 : Int) (p3323 : (List Int)) : R (List Bool) :=
  bindR (must (decide (0 ≤ p3319.Nodes ∧ p3319.Nodes ≤ 1000000000))) fun _ =>
  bindR (idx (List.replicate (p3319.Nodes).toNat false) p3322) fun e3341 =>
  loopM (m_topo_reach_l2 p3319 p3323) LL ((List.replicate (p3319.Nodes).toNat false).set (p3322).toNat true)

/-! slices.Index[[]bool,bool] -/
def m_slices_Index_bool_bool_l1 (p5951 : (List Bool)) (p5953 : Bool) (rec5978 : Int → R Int) (s5970 : Int) : R Int :=
  if (decide (s5970 < (p5951.length : Int))) then (bindR (idx p5951 s5970) fun e5984 =>
  if (p5953 == e5984) then (.ok s5970)
  else (rec5978 (w64 (s5970 + 1))))
  else (.ok ((-1)))
def m_slices_Index_bool_bool (p5951 : (List Bool)) (p5953 : Bool) : R Int :=
  loopM (m_slices_Index_bool_bool_l1 p5951 p5953) LL 0

/-! slices.Contains[[]bool,bool] -/
def m_slices_Contains_bool_bool (p5948 : (List Bool)) (p5950 : Bool) : R Bool :=
  bindR (m_slices_Index_bool_bool p5948 p5950) fun e5988 =>
  .ok ((decide (0 ≤ e5988)))

/-! isochron/topo.Check -/
def m_topo_Check_l1 (p63 : ApiTopo) (rec6764 : Int → R Int) (s6712 : Int) : R Int :=
  if (decide (s6712 < (p63.Station.length : Int))) then (bindR (idx p63.Station s6712) fun e6770 =>
  sh (fun (s6784 : Bool) => (if s6784 then (.ok 260)
  else (rec6764 (w64 (s6712 + 1))))) fun j6788 =>
  (if e6770 then (bindR (m_topo_degree p63 s6712) fun e6791 =>
  if (decide (e6791 < 1)) then (j6788 true)
  else (bindR (m_topo_degree p63 s6712) fun e6796 =>
  j6788 (decide (2 < e6796))))
  else (j6788 false)))
  else (bindR (m_topo_reach p63 0 ([])) fun e6800 =>
  bindR (m_slices_Contains_bool_bool e6800 false) fun e6813 =>
  if e6813 then (.ok 260)
  else (.ok 0))
def m_topo_Check_l2 (p63 : ApiTopo) (rec6597 : Int → R Int) (s6378 : Int) : R Int :=
  if (decide (s6378 < (p63.Links.length : Int))) then (bindR (m_topo_validLink p63 s6378) fun e6603 =>
  if (!e6603) then (.ok 260)
  else (rec6597 (w64 (s6378 + 1))))
  else (loopM (m_topo_Check_l1 p63) LL 0)
def m_topo_Check (p63 : ApiTopo) : R Int :=
  sh ((decide (p63.Nodes < 2)) || (decide (12 < p63.Nodes))) fun (s71 : Bool) =>
  (sh (s71 || (decide ((p63.Station.length : Int) ≠ p63.Nodes))) fun (s75 : Bool) =>
  (sh (s75 || (decide (24 < (p63.Links.length : Int)))) fun (s79 : Bool) =>
  (if s79 then (.ok 260)
  else (loopM (m_topo_Check_l2 p63) LL 0))))

/-! isochron/topo.From -/
def m_topo_From (p51 : ApiTopo) (p54 : Int) : R (Int × Int) :=
  bindR (m_topo_Check p51) fun e6827 =>
  if (decide (e6827 ≠ 0)) then (.ok (0, e6827))
  else (sh ((decide (p54 < 0)) || (decide ((w64 (2 * (p51.Links.length : Int))) ≤ p54))) fun (s6833 : Bool) =>
  (if s6833 then (.ok (0, 2))
  else (bindR (idx p51.Links (w64 (Int.tdiv p54 2))) fun e6837 =>
  bindR (m_topo_end_from ((TopoEnd.mk e6837 p54))) fun e6840 =>
  .ok (e6840, 0))))

/-! isochron/topo.To -/
def m_topo_To (p6859 : ApiTopo) (p6862 : Int) : R (Int × Int) :=
  bindR (m_topo_Check p6859) fun e6871 =>
  if (decide (e6871 ≠ 0)) then (.ok (0, e6871))
  else (sh ((decide (p6862 < 0)) || (decide ((w64 (2 * (p6859.Links.length : Int))) ≤ p6862))) fun (s6877 : Bool) =>
  (if s6877 then (.ok (0, 2))
  else (bindR (idx p6859.Links (w64 (Int.tdiv p6862 2))) fun e6881 =>
  bindR (m_topo_end_to ((TopoEnd.mk e6881 p6862))) fun e6884 =>
  .ok (e6884, 0))))

/-! (isochron/topo.end).per -/
def m_topo_end_per (p6928 : TopoEnd) : R Int :=
  .ok (p6928.Link.Per)

/-! isochron/topo.Per -/
def m_topo_Per (p6903 : ApiTopo) (p6906 : Int) : R (Int × Int) :=
  bindR (m_topo_Check p6903) fun e6915 =>
  if (decide (e6915 ≠ 0)) then (.ok (0, e6915))
  else (sh ((decide (p6906 < 0)) || (decide ((w64 (2 * (p6903.Links.length : Int))) ≤ p6906))) fun (s6921 : Bool) =>
  (if s6921 then (.ok (0, 2))
  else (bindR (idx p6903.Links (w64 (Int.tdiv p6906 2))) fun e6925 =>
  bindR (m_topo_end_per ((TopoEnd.mk e6925 p6906))) fun e6933 =>
  .ok (e6933, 0))))

/-! (isochron/topo.end).delay -/
def m_topo_end_delay (p6977 : TopoEnd) : R Int :=
  .ok (p6977.Link.Delay)

/-! isochron/topo.Delay -/
def m_topo_Delay (p6952 : ApiTopo) (p6955 : Int) : R (Int × Int) :=
  bindR (m_topo_Check p6952) fun e6964 =>
  if (decide (e6964 ≠ 0)) then (.ok (0, e6964))
  else (sh ((decide (p6955 < 0)) || (decide ((w64 (2 * (p6952.Links.length : Int))) ≤ p6955))) fun (s6970 : Bool) =>
  (if s6970 then (.ok (0, 2))
  else (bindR (idx p6952.Links (w64 (Int.tdiv p6955 2))) fun e6974 =>
  bindR (m_topo_end_delay ((TopoEnd.mk e6974 p6955))) fun e6982 =>
  .ok (e6982, 0))))

/-! isochron/topo.Ports -/
def m_topo_Ports_l1 (p7366 : ApiTopo) (p7369 : Int) (rec7650 : (Int × (List Int)) → R ((List Int) × Int)) (s7569 : Int × (List Int)) : R ((List Int) × Int) :=
  if (decide (s7569.1 < (p7366.Links.length : Int))) then (bindR (idx p7366.Links s7569.1) fun e7656 =>
  bindR (m_topo_end_from ((TopoEnd.mk e7656 (w64 (2 * s7569.1))))) fun e7674 =>
  sh (fun (s7684 : (List Int)) => (bindR (m_topo_end_from ((TopoEnd.mk e7656 (w64 ((w64 (2 * s7569.1)) + 1))))) fun e7701 =>
  sh (fun (s7711 : (List Int)) => (rec7650 ((w64 (s7569.1 + 1)), s7711))) fun j7715 =>
  (if (decide (e7701 = p7369)) then (bindR (must (okLen (s7684.length + ([(w64 ((w64 (2 * s7569.1)) + 1))]).length))) fun _ =>
  j7715 (s7684 ++ ([(w64 ((w64 (2 * s7569.1)) + 1))])))
  else (j7715 s7684)))) fun j7688 =>
  (if (decide (e7674 = p7369)) then (bindR (must (okLen (s7569.2.length + ([(w64 (2 * s7569.1))]).length))) fun _ =>
  j7688 (s7569.2 ++ ([(w64 (2 * s7569.1))])))
  else (j7688 s7569.2)))
  else (.ok (s7569.2, 0))
def m_topo_Ports (p7366 : ApiTopo) (p7369 : Int) : R ((List Int) × Int) :=
  bindR (m_topo_Check p7366) fun e7378 =>
  if (decide (e7378 ≠ 0)) then (.ok ([], e7378))
  else (bindR (m_topo_isNode p7366 p7369) fun e7383 =>
  if (!e7383) then (.ok ([], 2))
  else (loopM (m_topo_Ports_l1 p7366 p7369) LL (0, [])))

/-! isochron/topo.Find -/
def m_topo_Find_l1 (p7750 : ApiTopo) (p7753 : Int) (p7754 : Int) (rec8111 : Int → R (Int × Int)) (s8012 : Int) : R (Int × Int) :=
  if (decide (s8012 < (p7750.Links.length : Int))) then (bindR (idx p7750.Links s8012) fun e8117 =>
  bindR (m_topo_end_from ((TopoEnd.mk e8117 (w64 (2 * s8012))))) fun e8135 =>
  sh (fun (s8145 : Bool) => (if s8145 then (.ok ((w64 (2 * s8012)), 0))
  else (bindR (m_topo_end_from ((TopoEnd.mk e8117 (w64 ((w64 (2 * s8012)) + 1))))) fun e8168 =>
  sh (fun (s8178 : Bool) => (if s8178 then (.ok ((w64 ((w64 (2 * s8012)) + 1)), 0))
  else (rec8111 (w64 (s8012 + 1))))) fun j8192 =>
  (if (decide (e8168 = p7753)) then (bindR (m_topo_end_to ((TopoEnd.mk e8117 (w64 ((w64 (2 * s8012)) + 1))))) fun e8195 =>
  j8192 (decide (e8195 = p7754)))
  else (j8192 false))))) fun j8199 =>
  (if (decide (e8135 = p7753)) then (bindR (m_topo_end_to ((TopoEnd.mk e8117 (w64 (2 * s8012))))) fun e8202 =>
  j8199 (decide (e8202 = p7754)))
  else (j8199 false)))
  else (.ok (0, 4))
def m_topo_Find (p7750 : ApiTopo) (p7753 : Int) (p7754 : Int) : R (Int × Int) :=
  bindR (m_topo_Check p7750) fun e7775 =>
  if (decide (e7775 ≠ 0)) then (.ok (0, e7775))
  else (bindR (m_topo_isNode p7750 p7753) fun e7784 =>
  sh (fun (s7794 : Bool) => (if s7794 then (.ok (0, 2))
  else (loopM (m_topo_Find_l1 p7750 p7753 p7754) LL 0))) fun j8212 =>
  (if (!e7784) then (j8212 true)
  else (bindR (m_topo_isNode p7750 p7754) fun e8215 =>
  j8212 (!e8215))))

/-! isochron/topo.Reach -/
def m_topo_Reach_l1 (j8482 : Bool → R ((List Bool) × Int)) (p8386 : ApiTopo) (p8390 : (List Int)) (rec8530 : Int → R ((List Bool) × Int)) (s8515 : Int) : R ((List Bool) × Int) :=
  if (decide (s8515 < (p8390.length : Int))) then (bindR (idx p8390 s8515) fun e8536 =>
  sh ((decide (e8536 < 0)) || (decide ((p8386.Links.length : Int) ≤ e8536))) fun (s8540 : Bool) =>
  (if s8540 then (j8482 (decide (0 ≤ s8515)))
  else (rec8530 (w64 (s8515 + 1)))))
  else (j8482 false)
def m_topo_Reach (p8386 : ApiTopo) (p8389 : Int) (p8390 : (List Int)) : R ((List Bool) × Int) :=
  bindR (m_topo_Check p8386) fun e8396 =>
  if (decide (e8396 ≠ 0)) then (.ok ([], e8396))
  else (bindR (m_topo_isNode p8386 p8389) fun e8401 =>
  sh (fun (s8469 : Bool) => (if s8469 then (.ok ([], 2))
  else (bindR (m_topo_reach p8386 p8389 p8390) fun e8473 =>
  .ok (e8473, 0)))) fun j8482 =>
  (if (!e8401) then (j8482 true)
  else (loopM (m_topo_Reach_l1 j8482 p8386 p8390) LL 0)))

/-! slices.Equal[[]int,int] -/
def m_slices_Equal_int_int_l1 (p8610 : (List Int)) (p8612 : (List Int)) (rec8648 : Int → R Bool) (s8637 : Int) : R Bool :=
  if (decide (s8637 < (p8610.length : Int))) then (bindR (idx p8610 s8637) fun e8654 =>
  bindR (idx p8612 s8637) fun e8657 =>
  if (decide (e8654 ≠ e8657)) then (.ok false)
  else (rec8648 (w64 (s8637 + 1))))
  else (.ok true)
def m_slices_Equal_int_int (p8610 : (List Int)) (p8612 : (List Int)) : R Bool :=
  if (decide ((p8610.length : Int) ≠ (p8612.length : Int))) then (.ok false)
  else (loopM (m_slices_Equal_int_int_l1 p8610 p8612) LL 0)

/-! slices.Equal[[]bool,bool] -/
def m_slices_Equal_bool_bool_l1 (p8684 : (List Bool)) (p8686 : (List Bool)) (rec8722 : Int → R Bool) (s8711 : Int) : R Bool :=
  if (decide (s8711 < (p8684.length : Int))) then (bindR (idx p8684 s8711) fun e8728 =>
  bindR (idx p8686 s8711) fun e8731 =>
  if (!(e8728 == e8731)) then (.ok false)
  else (rec8722 (w64 (s8711 + 1))))
  else (.ok true)
def m_slices_Equal_bool_bool (p8684 : (List Bool)) (p8686 : (List Bool)) : R Bool :=
  if (decide ((p8684.length : Int) ≠ (p8686.length : Int))) then (.ok false)
  else (loopM (m_slices_Equal_bool_bool_l1 p8684 p8686) LL 0)

/-! isochron/isochronlaw16.wakes -/
def m_isochronlaw16_wakes : R Bool :=
  bindR (m_isochronlaw16_line) fun e34 =>
  bindR (m_topo_From e34 0) fun e6855 =>
  bindR (m_topo_To e34 3) fun e6899 =>
  bindR (m_topo_Per e34 5) fun e6948 =>
  bindR (m_topo_Delay e34 4) fun e6997 =>
  bindR (m_topo_Ports e34 1) fun e7741 =>
  bindR (m_topo_Find e34 2 1) fun e8219 =>
  bindR (m_topo_Reach e34 0 ([1])) fun e8553 =>
  bindR (m_topo_From e34 6) fun e8562 =>
  sh ((decide (e6855.2 = 0)) && (decide (e6899.2 = 0))) fun (s8567 : Bool) =>
  (sh (s8567 && (decide (e6948.2 = 0))) fun (s8571 : Bool) =>
  (sh (s8571 && (decide (e6997.2 = 0))) fun (s8575 : Bool) =>
  (sh (s8575 && (decide (e7741.2 = 0))) fun (s8579 : Bool) =>
  (sh (s8579 && (decide (e8219.2 = 0))) fun (s8583 : Bool) =>
  (sh (s8583 && (decide (e8553.2 = 0))) fun (s8587 : Bool) =>
  (sh (s8587 && (decide (e6855.1 = 0))) fun (s8591 : Bool) =>
  (sh (s8591 && (decide (e6899.1 = 1))) fun (s8595 : Bool) =>
  (sh (s8595 && (decide (e6948.1 = 80))) fun (s8599 : Bool) =>
  (sh (s8599 && (decide (e6997.1 = 7))) fun (s8603 : Bool) =>
  (sh (fun (s8673 : Bool) => (sh (s8673 && (decide (e8219.1 = 3))) fun (s8677 : Bool) =>
  (sh (fun (s8747 : Bool) => (sh (s8747 && (decide (e8562.2 = 2))) fun (s8751 : Bool) =>
  (sh (fun (s8760 : Bool) => (.ok s8760)) fun j8763 =>
  (if s8751 then (bindR (m_topo_Check ((ApiTopo.mk 0 [] []))) fun e8766 =>
  j8763 (decide (e8766 = 260)))
  else (j8763 false))))) fun j8773 =>
  (if s8677 then (bindR (m_slices_Equal_bool_bool (e8553.1) ([true, true, false, false])) fun e8786 =>
  j8773 e8786)
  else (j8773 false))))) fun j8793 =>
  (if s8603 then (bindR (m_slices_Equal_int_int (e7741.1) ([1, 2])) fun e8806 =>
  j8793 e8806)
  else (j8793 false))))))))))))

/-! isochron/isochronlaw16.few -/
def m_isochronlaw16_few (p8864 : ApiTopo) : R ApiTopo :=
  bindR (must (decide (0 ≤ (min (p8864.Station.length : Int) 20) ∧ (min (p8864.Station.length : Int) 20) ≤ (p8864.Station.length : Int)))) fun _ =>
  bindR (must (decide (0 ≤ (min (p8864.Links.length : Int) 30) ∧ (min (p8864.Links.length : Int) 30) ≤ (p8864.Links.length : Int)))) fun _ =>
  .ok ((ApiTopo.mk p8864.Nodes (p8864.Station.take ((min (p8864.Station.length : Int) 20)).toNat) (p8864.Links.take ((min (p8864.Links.length : Int) 30)).toNat)))

/-! isochron/isochronref16.node -/
def m_isochronref16_node (p8953 : ApiTopo) (p8956 : Int) : R Bool :=
  sh ((decide (0 ≤ p8956)) && (decide (p8956 < p8953.Nodes))) fun (s8962 : Bool) =>
  (.ok s8962)

/-! isochron/isochronref16.link -/
def m_isochronref16_link (p8941 : ApiTopo) (p8944 : ApiLink) : R Bool :=
  bindR (m_isochronref16_node p8941 (p8944.A)) fun e8968 =>
  sh (fun (s8978 : Bool) => (sh (s8978 || (decide (p8944.A = p8944.B))) fun (s8982 : Bool) =>
  (sh (fun (s8994 : Bool) => (if s8994 then (.ok false)
  else (sh ((decide (1 ≤ p8944.Per)) && (decide (p8944.Per ≤ 1000))) fun (s8999 : Bool) =>
  (sh (s8999 && (decide (0 ≤ p8944.Delay))) fun (s9003 : Bool) =>
  (sh (s9003 && (decide (p8944.Delay ≤ 10000))) fun (s9007 : Bool) =>
  (.ok s9007)))))) fun j9019 =>
  (if s8982 then (j9019 true)
  else (bindR (idx p8941.Station p8944.A) fun e9022 =>
  if e9022 then (bindR (idx p8941.Station p8944.B) fun e9026 =>
  j9019 e9026)
  else (j9019 false)))))) fun j9032 =>
  (if (!e8968) then (j9032 true)
  else (bindR (m_isochronref16_node p8941 (p8944.B)) fun e9035 =>
  j9032 (!e9035)))

/-! isochron/isochronref16.In -/
def m_isochronref16_In_l1 (p9144 : (List Int)) (p9146 : Int) (rec9171 : Int → R Bool) (s9163 : Int) : R Bool :=
  if (decide (s9163 < (p9144.length : Int))) then (bindR (idx p9144 s9163) fun e9177 =>
  if (decide (e9177 = p9146)) then (.ok true)
  else (rec9171 (w64 (s9163 + 1))))
  else (.ok false)
def m_isochronref16_In (p9144 : (List Int)) (p9146 : Int) : R Bool :=
  loopM (m_isochronref16_In_l1 p9144 p9146) LL 0

/-! isochron/isochronref16.Reach -/
def m_isochronref16_Reach_l1 (p10335 : ApiTopo) (p10339 : (List Int)) (rec11230 : ((List Bool) × Int) → R (List Bool)) (s10937 : (List Bool) × Int) (rec11451 : ((List Bool) × Int) → R (List Bool)) (s11379 : (List Bool) × Int) : R (List Bool) :=
  if (decide (s11379.2 < (p10335.Links.length : Int))) then (bindR (idx p10335.Links s11379.2) fun e11457 =>
  bindR (m_isochronref16_In p10339 (s11379.2)) fun e11466 =>
  sh (fun (s11479 : (List Bool) × Bool) => (sh (fun (s11496 : (List Bool)) => (rec11451 (s11496, (w64 (s11379.2 + 1))))) fun j11500 =>
  (if s11479.2 then (bindR (idx s11479.1 e11457.A) fun e11502 =>
  bindR (idx (s11479.1.set (e11457.A).toNat true) e11457.B) fun e11508 =>
  j11500 ((s11479.1.set (e11457.A).toNat true).set (e11457.B).toNat true))
  else (j11500 s11479.1)))) fun j11514 =>
  (if (!e11466) then (bindR (idx s11379.1 e11457.A) fun e11517 =>
  if e11517 then (j11514 (s11379.1, true))
  else (bindR (idx s11379.1 e11457.B) fun e11521 =>
  j11514 (s11379.1, e11521)))
  else (j11514 (s11379.1, false))))
  else (rec11230 (s11379.1, (w64 (s10937.2 + 1))))
def m_isochronref16_Reach_l2 (p10335 : ApiTopo) (p10339 : (List Int)) (rec11230 : ((List Bool) × Int) → R (List Bool)) (s10937 : (List Bool) × Int) : R (List Bool) :=
  if (decide (s10937.2 < p10335.Nodes)) then (loopM (m_isochronref16_Reach_l1 p10335 p10339 rec11230 s10937) LL (s10937.1, 0))
  else (.ok (s10937.1))
def m_isochronref16_Reach (p10335 : ApiTopo) (p10338 : Int) (p10339 : (List Int)) : R (List Bool) :=
  bindR (must (decide (0 ≤ p10335.Nodes ∧ p10335.Nodes ≤ 1000000000))) fun _ =>
  bindR (idx (List.replicate (p10335.Nodes).toNat false) p10338) fun e10347 =>
  loopM (m_isochronref16_Reach_l2 p10335 p10339) LL (((List.replicate (p10335.Nodes).toNat false).set (p10338).toNat true), 0)

/-! isochron/isochronref16.Joins -/
def m_isochronref16_Joins (p11717 : ApiLink) (p11718 : Int) (p11719 : Int) : R Bool :=
  sh ((decide (p11717.A = p11718)) && (decide (p11717.B = p11719))) fun (s11725 : Bool) =>
  (sh (s11725 || ((decide (p11717.A = p11719)) && (decide (p11717.B = p11718)))) fun (s11729 : Bool) =>
  (.ok s11729))

/-! isochron/isochronref16.Right -/
def m_isochronref16_Right_l1 (e12343 : ApiLink) (p8906 : ApiTopo) (rec12337 : ((List Int) × Int) → R Bool) (s12025 : (List Int) × Int) (rec12447 : Int → R Bool) (s12417 : Int) : R Bool :=
  if (decide (s12417 < s12025.2)) then (bindR (idx p8906.Links s12417) fun e12453 =>
  bindR (m_isochronref16_Joins e12453 (e12343.A) (e12343.B)) fun e12456 =>
  if e12456 then (.ok false)
  else (rec12447 (w64 (s12417 + 1))))
  else (bindR (idx s12025.1 e12343.A) fun e12461 =>
  bindR (idx s12025.1 e12343.A) fun e12464 =>
  bindR (idx (s12025.1.set (e12343.A).toNat (w64 (e12461 + 1))) e12343.B) fun e12470 =>
  bindR (idx (s12025.1.set (e12343.A).toNat (w64 (e12461 + 1))) e12343.B) fun e12473 =>
  rec12337 (((s12025.1.set (e12343.A).toNat (w64 (e12461 + 1))).set (e12343.B).toNat (w64 (e12470 + 1))), (w64 (s12025.2 + 1))))
def m_isochronref16_Right_l2 (p8906 : ApiTopo) (rec12609 : ((List Int) × (List Bool) × Int) → R Bool) (s12568 : (List Int) × (List Bool) × Int) : R Bool :=
  if (decide (s12568.2.2 < p8906.Nodes)) then (bindR (idx s12568.2.1 s12568.2.2) fun e12615 =>
  sh (fun (s12631 : (List Int) × Bool) => (if s12631.2 then (.ok false)
  else (rec12609 (s12631.1, s12568.2.1, (w64 (s12568.2.2 + 1)))))) fun j12636 =>
  (if (!e12615) then (j12636 (s12568.1, true))
  else (bindR (idx p8906.Station s12568.2.2) fun e12639 =>
  if e12639 then (bindR (idx s12568.1 s12568.2.2) fun e12643 =>
  if (decide (e12643 < 1)) then (j12636 (s12568.1, true))
  else (bindR (idx s12568.1 s12568.2.2) fun e12647 =>
  j12636 (s12568.1, (decide (2 < e12647)))))
  else (j12636 (s12568.1, false)))))
  else (.ok true)
def m_isochronref16_Right_l3 (p8906 : ApiTopo) (rec12337 : ((List Int) × Int) → R Bool) (s12025 : (List Int) × Int) : R Bool :=
  if (decide (s12025.2 < (p8906.Links.length : Int))) then (bindR (idx p8906.Links s12025.2) fun e12343 =>
  bindR (m_isochronref16_link p8906 e12343) fun e12352 =>
  if (!e12352) then (.ok false)
  else (loopM (m_isochronref16_Right_l1 e12343 p8906 rec12337 s12025) LL 0))
  else (bindR (m_isochronref16_Reach p8906 0 ([])) fun e12479 =>
  loopM (m_isochronref16_Right_l2 p8906) LL (s12025.1, e12479, 0))
def m_isochronref16_Right (p8906 : ApiTopo) : R Bool :=
  sh ((decide (p8906.Nodes < 2)) || (decide (12 < p8906.Nodes))) fun (s8914 : Bool) =>
  (sh (s8914 || (decide ((p8906.Station.length : Int) ≠ p8906.Nodes))) fun (s8918 : Bool) =>
  (sh (s8918 || (decide (24 < (p8906.Links.length : Int)))) fun (s8922 : Bool) =>
  (if s8922 then (.ok false)
  else (bindR (must (decide (0 ≤ p8906.Nodes ∧ p8906.Nodes ≤ 1000000000))) fun _ =>
  loopM (m_isochronref16_Right_l3 p8906) LL ((List.replicate (p8906.Nodes).toNat 0), 0)))))

/-! isochron/isochronref16.From -/
def m_isochronref16_From (p12725 : ApiTopo) (p12728 : Int) : R Int :=
  bindR (idx p12725.Links (w64 (Int.tdiv p12728 2))) fun e12733 =>
  if (decide ((Int.tmod p12728 2) = 1)) then (.ok (e12733.B))
  else (.ok (e12733.A))

/-! isochron/isochronref16.Ports -/
def m_isochronref16_Ports_l1 (p12834 : ApiTopo) (p12837 : Int) (rec12914 : ((List Int) × Int) → R (List Int)) (s12891 : (List Int) × Int) : R (List Int) :=
  if (decide (s12891.2 < (w64 (2 * (p12834.Links.length : Int))))) then (bindR (m_isochronref16_From p12834 (s12891.2)) fun e12920 =>
  sh (fun (s12928 : (List Int)) => (rec12914 (s12928, (w64 (s12891.2 + 1))))) fun j12932 =>
  (if (decide (e12920 = p12837)) then (bindR (must (okLen (s12891.1.length + ([s12891.2]).length))) fun _ =>
  j12932 (s12891.1 ++ ([s12891.2])))
  else (j12932 s12891.1)))
  else (.ok (s12891.1))
def m_isochronref16_Ports (p12834 : ApiTopo) (p12837 : Int) : R (List Int) :=
  loopM (m_isochronref16_Ports_l1 p12834 p12837) LL ([], 0)

/-! isochron/isochronref16.To -/
def m_isochronref16_To (p12997 : ApiTopo) (p13000 : Int) : R Int :=
  bindR (idx p12997.Links (w64 (Int.tdiv p13000 2))) fun e13005 =>
  if (decide ((Int.tmod p13000 2) = 1)) then (.ok (e13005.A))
  else (.ok (e13005.B))

/-! isochron/isochronref16.Find -/
def m_isochronref16_Find_l1 (p12978 : ApiTopo) (p12981 : Int) (p12982 : Int) (rec13080 : Int → R Int) (s13055 : Int) : R Int :=
  if (decide (s13055 < (w64 (2 * (p12978.Links.length : Int))))) then (bindR (m_isochronref16_From p12978 s13055) fun e13086 =>
  sh (fun (s13096 : Bool) => (if s13096 then (.ok s13055)
  else (rec13080 (w64 (s13055 + 1))))) fun j13100 =>
  (if (decide (e13086 = p12981)) then (bindR (m_isochronref16_To p12978 s13055) fun e13103 =>
  j13100 (decide (e13103 = p12982)))
  else (j13100 false)))
  else (.ok ((-1)))
def m_isochronref16_Find (p12978 : ApiTopo) (p12981 : Int) (p12982 : Int) : R Int :=
  loopM (m_isochronref16_Find_l1 p12978 p12981 p12982) LL 0

/-! isochron/isochronlaw16.TopoFinds -/
def m_isochronlaw16_TopoFinds (p1 : ApiTopo) (p4 : Int) (p5 : Int) : R Bool :=
  bindR (m_isochronlaw16_wakes) fun e8840 =>
  if (!e8840) then (.ok false)
  else (bindR (m_isochronlaw16_few p1) fun e8885 =>
  bindR (m_topo_Ports e8885 p4) fun e8893 =>
  bindR (m_topo_Find e8885 p4 p5) fun e8902 =>
  bindR (m_isochronref16_Right e8885) fun e12659 =>
  if (!e12659) then (sh ((decide (e8893.2 = 260)) && (decide (e8902.2 = 260))) fun (s12665 : Bool) =>
  (sh (s12665 && (decide ((e8893.1.length : Int) = 0))) fun (s12669 : Bool) =>
  (sh (s12669 && (decide (e8902.1 = 0))) fun (s12673 : Bool) =>
  (.ok s12673))))
  else (sh ((decide (p4 < 0)) || (decide (e8885.Nodes ≤ p4))) fun (s12686 : Bool) =>
  (if s12686 then (sh ((decide (e8893.2 = 2)) && (decide (e8902.2 = 2))) fun (s12691 : Bool) =>
  (sh (s12691 && (decide ((e8893.1.length : Int) = 0))) fun (s12695 : Bool) =>
  (sh (s12695 && (decide (e8902.1 = 0))) fun (s12699 : Bool) =>
  (.ok s12699))))
  else (sh (fun (s12960 : Bool) => (if s12960 then (.ok false)
  else (sh ((decide (p5 < 0)) || (decide (e8885.Nodes ≤ p5))) fun (s12967 : Bool) =>
  (if s12967 then (sh ((decide (e8902.2 = 2)) && (decide (e8902.1 = 0))) fun (s12972 : Bool) =>
  (.ok s12972))
  else (bindR (m_isochronref16_Find e8885 p4 p5) fun e13107 =>
  if (decide (e13107 < 0)) then (sh ((decide (e8902.2 = 4)) && (decide (e8902.1 = 0))) fun (s13113 : Bool) =>
  (.ok s13113))
  else (sh ((decide (e8902.2 = 0)) && (decide (e8902.1 = e13107))) fun (s13120 : Bool) =>
  (.ok s13120))))))) fun j13129 =>
  (if (decide (e8893.2 ≠ 0)) then (j13129 true)
  else (bindR (m_isochronref16_Ports e8885 p4) fun e13132 =>
  bindR (m_slices_Equal_int_int (e8893.1) e13132) fun e13149 =>
  j13129 (!e13149)))))))
end Go.AM
