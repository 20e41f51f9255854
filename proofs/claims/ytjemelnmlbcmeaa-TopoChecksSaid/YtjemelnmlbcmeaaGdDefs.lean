/- Printed: functions of the given program as functions over plain data, and that the machine does what they say; no claim of its own; no condition. -/
import Derived.Test.YtjemelnmlbcmeaaLfK
set_option maxRecDepth 100000
set_option maxHeartbeats 4000000
set_option linter.unusedVariables false
set_option linter.unusedSimpArgs false
namespace Go.AM
open Go

structure ApiLink where
  A : Int
  B : Int
  Per : Int
  Delay : Int
  deriving Inhabited
def eApiLink : Enc ApiLink := eMap (fun s => (s.A, s.B, s.Per, s.Delay, ())) (ePair (eInt .i64) (ePair (eInt .i64) (ePair (eInt .i64) (ePair (eInt .i64) eUnit))))
theorem eApiLink_el {φ : Fz} {cs : List Value} {x : ApiLink} (h : eApiLink.R φ cs x) : cs = [.int .i64 x.A, .int .i64 x.B, .int .i64 x.Per, .int .i64 x.Delay] := by
  obtain ⟨p1, r1, e1, g1, p2, r2, e2, g2, p3, r3, e3, g3, p4, r4, e4, g4, gl⟩ := h
  have gl : r4 = [] := gl
  have g1 : p1 = [.int .i64 x.A] := g1
  have g2 : p2 = [.int .i64 x.B] := g2
  have g3 : p3 = [.int .i64 x.Per] := g3
  have g4 : p4 = [.int .i64 x.Delay] := g4
  subst gl
  subst g1 g2 g3 g4
  subst e4
  subst e3
  subst e2
  subst e1
  exact rfl
structure ApiTopo where
  Nodes : Int
  Station : (List Bool)
  Links : (List ApiLink)
  deriving Inhabited
def eApiTopo : Enc ApiTopo := eMap (fun s => (s.Nodes, s.Station, s.Links, ())) (ePair (eInt .i64) (ePair (eSl eBool) (ePair (eSl eApiLink) eUnit)))
theorem eApiTopo_el {φ : Fz} {cs : List Value} {x : ApiTopo} (h : eApiTopo.R φ cs x) : ∃ a13127 n13127 c13127, ∃ a13128 n13128 c13128, cs = [.int .i64 x.Nodes, .slice a13127 n13127 c13127, .slice a13128 n13128 c13128] ∧ RSl eBool φ (.slice a13127 n13127 c13127) x.Station ∧ RSl eApiLink φ (.slice a13128 n13128 c13128) x.Links := by
  obtain ⟨p1, r1, e1, g1, p2, r2, e2, g2, p3, r3, e3, g3, gl⟩ := h
  have gl : r3 = [] := gl
  have g1 : p1 = [.int .i64 x.Nodes] := g1
  obtain ⟨a2, n2, c2, g2, R2⟩ := g2
  obtain ⟨a3, n3, c3, g3, R3⟩ := g3
  subst gl
  subst g1 g2 g3
  subst e3
  subst e2
  subst e1
  exact ⟨a2, n2, c2, a3, n3, c3, rfl, R2, R3⟩
structure TopoEnd where
  Link : ApiLink
  port : Int
  deriving Inhabited
def eTopoEnd : Enc TopoEnd := eMap (fun s => (s.Link, s.port, ())) (ePair eApiLink (ePair (eInt .i64) eUnit))
theorem eTopoEnd_el {φ : Fz} {cs : List Value} {x : TopoEnd} (h : eTopoEnd.R φ cs x) : cs = [.int .i64 x.Link.A, .int .i64 x.Link.B, .int .i64 x.Link.Per, .int .i64 x.Link.Delay, .int .i64 x.port] := by
  obtain ⟨p1, r1, e1, g1, p2, r2, e2, g2, gl⟩ := h
  have gl : r2 = [] := gl
  obtain g1 := eApiLink_el g1
  have g2 : p2 = [.int .i64 x.port] := g2
  subst gl
  subst g1 g2
  subst e2
  subst e1
  exact rfl


/-! isochron/isochronlaw16.line -/
def m_isochronlaw16_line : R ApiTopo :=
  .ok ((ApiTopo.mk 4 [true, false, false, true] [(ApiLink.mk 0 1 8 50), (ApiLink.mk 1 2 8 0), (ApiLink.mk 2 3 80 7)]))

/-! isochron/topo.isNode -/
def m_topo_isNode (p119 : ApiTopo) (p122 : Int) : R Bool :=
  sh ((decide (0 ≤ p122)) && (decide (p122 < p119.Nodes))) fun (s128 : Bool) =>
  (.ok s128)

/-! isochron/topo.validLink -/
def m_topo_validLink_l1 (e104 : ApiLink) (p92 : ApiTopo) (p95 : Int) (rec261 : Int → R Bool) (s233 : Int) : R Bool :=
  if (decide (s233 < ((p92.Links.take (p95).toNat).length : Int))) then (bindR (idx (p92.Links.take (p95).toNat) s233) fun e267 =>
  sh ((decide (e267.A = e104.A)) && (decide (e267.B = e104.B))) fun (s275 : Bool) =>
  (sh (s275 || ((decide (e267.A = e104.B)) && (decide (e267.B = e104.A)))) fun (s279 : Bool) =>
  (if s279 then (if (!(!(decide (0 ≤ s233)))) then (.ok false)
  else (.ok true))
  else (rec261 (w64 (s233 + 1))))))
  else (.ok true)
def m_topo_validLink (p92 : ApiTopo) (p95 : Int) : R Bool :=
  bindR (idx p92.Links p95) fun e104 =>
  bindR (m_topo_isNode p92 (e104.A)) fun e134 =>
  sh (fun (s144 : Bool) => (sh (s144 && (decide (e104.A ≠ e104.B))) fun (s148 : Bool) =>
  (if (!s148) then (.ok false)
  else (bindR (idx p92.Station e104.A) fun e152 =>
  sh (fun (s160 : Bool) => (if (!s160) then (.ok false)
  else (sh ((decide (1 ≤ e104.Per)) && (decide (e104.Per ≤ 1000))) fun (s165 : Bool) =>
  (sh (s165 && (decide (0 ≤ e104.Delay))) fun (s169 : Bool) =>
  (sh (s169 && (decide (e104.Delay ≤ 10000))) fun (s173 : Bool) =>
  (if (!s173) then (.ok false)
  else (bindR (must (decide (0 ≤ p95 ∧ p95 ≤ (p92.Links.length : Int)))) fun _ =>
  loopM (m_topo_validLink_l1 e104 p92 p95) LL 0))))))) fun j300 =>
  (if (!e152) then (j300 true)
  else (bindR (idx p92.Station e104.B) fun e303 =>
  j300 (!e303))))))) fun j309 =>
  (if e134 then (bindR (m_topo_isNode p92 (e104.B)) fun e312 =>
  j309 e312)
  else (j309 false))

/-! (isochron/topo.end).from -/
def m_topo_end_from (p382 : TopoEnd) : R Int :=
  if (decide ((Int.tmod p382.port 2) = 0)) then (.ok (p382.Link.A))
  else (.ok (p382.Link.B))

/-! isochron/topo.degree -/
def m_topo_degree_l1 (p330 : ApiTopo) (p333 : Int) (rec561 : (Int × Int) → R Int) (s496 : Int × Int) : R Int :=
  if (decide (s496.1 < (p330.Links.length : Int))) then (bindR (idx p330.Links s496.1) fun e567 =>
  bindR (m_topo_end_from ((TopoEnd.mk e567 (w64 (2 * s496.1))))) fun e585 =>
  sh (fun (s592 : Int) => (bindR (m_topo_end_from ((TopoEnd.mk e567 (w64 ((w64 (2 * s496.1)) + 1))))) fun e608 =>
  sh (fun (s615 : Int) => (rec561 ((w64 (s496.1 + 1)), s615))) fun j618 =>
  (if (decide (e608 = p333)) then (j618 (w64 (s592 + 1)))
  else (j618 s592)))) fun j595 =>
  (if (decide (e585 = p333)) then (j595 (w64 (s496.2 + 1)))
  else (j595 s496.2)))
  else (.ok (s496.2))
def m_topo_degree (p330 : ApiTopo) (p333 : Int) : R Int :=
  loopM (m_topo_degree_l1 p330 p333) LL (0, 0)

/-! (isochron/topo.end).to -/
def m_topo_end_to (p727 : TopoEnd) : R Int :=
  bindR (m_topo_end_from p727) fun e732 =>
  .ok ((w64 ((w64 (p727.Link.A + p727.Link.B)) - e732)))

/-! slices.Index[[]int,int] -/
def m_slices_Index_int_int_l1 (p751 : (List Int)) (p753 : Int) (rec778 : Int → R Int) (s770 : Int) : R Int :=
  if (decide (s770 < (p751.length : Int))) then (bindR (idx p751 s770) fun e784 =>
  if (decide (p753 = e784)) then (.ok s770)
  else (rec778 (w64 (s770 + 1))))
  else (.ok ((-1)))
def m_slices_Index_int_int (p751 : (List Int)) (p753 : Int) : R Int :=
  loopM (m_slices_Index_int_int_l1 p751 p753) LL 0

/-! slices.Contains[[]int,int] -/
def m_slices_Contains_int_int (p748 : (List Int)) (p750 : Int) : R Bool :=
  bindR (m_slices_Index_int_int p748 p750) fun e788 =>
  .ok ((decide (0 ≤ e788)))

/-! isochron/topo.reach -/
def m_topo_reach_l1 (p3324 : ApiTopo) (p3328 : (List Int)) (rec5293 : (List Bool) → R (List Bool)) (rec5783 : (Int × (List Bool)) → R (List Bool)) (s5625 : Int × (List Bool)) : R (List Bool) :=
  if (decide (s5625.1 < (p3324.Links.length : Int))) then (bindR (idx p3324.Links s5625.1) fun e5789 =>
  bindR (m_topo_end_from ((TopoEnd.mk e5789 (w64 (2 * s5625.1))))) fun e5807 =>
  bindR (idx s5625.2 e5807) fun e5811 =>
  sh (fun (s5823 : Bool) => (sh (fun (s5832 : Bool) => (if s5832 then (bindR (m_topo_end_to ((TopoEnd.mk e5789 (w64 (2 * s5625.1))))) fun e5836 =>
  bindR (idx s5625.2 e5836) fun e5840 =>
  rec5293 (s5625.2.set (e5836).toNat true))
  else (bindR (m_topo_end_from ((TopoEnd.mk e5789 (w64 ((w64 (2 * s5625.1)) + 1))))) fun e5861 =>
  bindR (idx s5625.2 e5861) fun e5865 =>
  sh (fun (s5877 : Bool) => (sh (fun (s5886 : Bool) => (if s5886 then (bindR (m_topo_end_to ((TopoEnd.mk e5789 (w64 ((w64 (2 * s5625.1)) + 1))))) fun e5890 =>
  bindR (idx s5625.2 e5890) fun e5894 =>
  rec5293 (s5625.2.set (e5890).toNat true))
  else (rec5783 ((w64 (s5625.1 + 1)), s5625.2)))) fun j5906 =>
  (if s5877 then (bindR (m_slices_Contains_int_int p3328 ((w64 (Int.tdiv (w64 ((w64 (2 * s5625.1)) + 1)) 2)))) fun e5909 =>
  j5906 (!e5909))
  else (j5906 false)))) fun j5913 =>
  (if e5865 then (bindR (m_topo_end_to ((TopoEnd.mk e5789 (w64 ((w64 (2 * s5625.1)) + 1))))) fun e5916 =>
  bindR (idx s5625.2 e5916) fun e5920 =>
  j5913 (!e5920))
  else (j5913 false))))) fun j5923 =>
  (if s5823 then (bindR (m_slices_Contains_int_int p3328 ((w64 (Int.tdiv (w64 (2 * s5625.1)) 2)))) fun e5926 =>
  j5923 (!e5926))
  else (j5923 false)))) fun j5930 =>
  (if e5811 then (bindR (m_topo_end_to ((TopoEnd.mk e5789 (w64 (2 * s5625.1))))) fun e5933 =>
  bindR (idx s5625.2 e5933) fun e5937 =>
  j5930 (!e5937))
  else (j5930 false)))
  else (.ok (s5625.2))
def m_topo_reach_l2 (p3324 : ApiTopo) (p3328 : (List Int)) (rec5293 : (List Bool) → R (List Bool)) (s4645 : (List Bool)) : R (List Bool) :=
  loopM (m_topo_reach_l1 p3324 p3328 rec5293) LL (0, s4645)
def m_topo_reach (p3324 : ApiTopo) (p3327 : Int) (p3328 : (List Int)) : R (List Bool) :=
  bindR (must (decide (0 ≤ p3324.Nodes ∧ p3324.Nodes ≤ 1000000000))) fun _ =>
  bindR (idx (List.replicate (p3324.Nodes).toNat false) p3327) fun e3346 =>
  loopM (m_topo_reach_l2 p3324 p3328) LL ((List.replicate (p3324.Nodes).toNat false).set (p3327).toNat true)

/-! slices.Index[[]bool,bool] -/
def m_slices_Index_bool_bool_l1 (p5956 : (List Bool)) (p5958 : Bool) (rec5983 : Int → R Int) (s5975 : Int) : R Int :=
  if (decide (s5975 < (p5956.length : Int))) then (bindR (idx p5956 s5975) fun e5989 =>
  if (p5958 == e5989) then (.ok s5975)
  else (rec5983 (w64 (s5975 + 1))))
  else (.ok ((-1)))
def m_slices_Index_bool_bool (p5956 : (List Bool)) (p5958 : Bool) : R Int :=
  loopM (m_slices_Index_bool_bool_l1 p5956 p5958) LL 0

/-! slices.Contains[[]bool,bool] -/
def m_slices_Contains_bool_bool (p5953 : (List Bool)) (p5955 : Bool) : R Bool :=
  bindR (m_slices_Index_bool_bool p5953 p5955) fun e5993 =>
  .ok ((decide (0 ≤ e5993)))

/-! isochron/topo.Check -/
def m_topo_Check_l1 (p68 : ApiTopo) (rec6769 : Int → R Int) (s6717 : Int) : R Int :=
  if (decide (s6717 < (p68.Station.length : Int))) then (bindR (idx p68.Station s6717) fun e6775 =>
  sh (fun (s6789 : Bool) => (if s6789 then (.ok 260)
  else (rec6769 (w64 (s6717 + 1))))) fun j6793 =>
  (if e6775 then (bindR (m_topo_degree p68 s6717) fun e6796 =>
  if (decide (e6796 < 1)) then (j6793 true)
  else (bindR (m_topo_degree p68 s6717) fun e6801 =>
  j6793 (decide (2 < e6801))))
  else (j6793 false)))
  else (bindR (m_topo_reach p68 0 ([])) fun e6805 =>
  bindR (m_slices_Contains_bool_bool e6805 false) fun e6818 =>
  if e6818 then (.ok 260)
  else (.ok 0))
def m_topo_Check_l2 (p68 : ApiTopo) (rec6602 : Int → R Int) (s6383 : Int) : R Int :=
  if (decide (s6383 < (p68.Links.length : Int))) then (bindR (m_topo_validLink p68 s6383) fun e6608 =>
  if (!e6608) then (.ok 260)
  else (rec6602 (w64 (s6383 + 1))))
  else (loopM (m_topo_Check_l1 p68) LL 0)
def m_topo_Check (p68 : ApiTopo) : R Int :=
  sh ((decide (p68.Nodes < 2)) || (decide (12 < p68.Nodes))) fun (s76 : Bool) =>
  (sh (s76 || (decide ((p68.Station.length : Int) ≠ p68.Nodes))) fun (s80 : Bool) =>
  (sh (s80 || (decide (24 < (p68.Links.length : Int)))) fun (s84 : Bool) =>
  (if s84 then (.ok 260)
  else (loopM (m_topo_Check_l2 p68) LL 0))))

/-! isochron/topo.From -/
def m_topo_From (p56 : ApiTopo) (p59 : Int) : R (Int × Int) :=
  bindR (m_topo_Check p56) fun e6832 =>
  if (decide (e6832 ≠ 0)) then (.ok (0, e6832))
  else (sh ((decide (p59 < 0)) || (decide ((w64 (2 * (p56.Links.length : Int))) ≤ p59))) fun (s6838 : Bool) =>
  (if s6838 then (.ok (0, 2))
  else (bindR (idx p56.Links (w64 (Int.tdiv p59 2))) fun e6842 =>
  bindR (m_topo_end_from ((TopoEnd.mk e6842 p59))) fun e6845 =>
  .ok (e6845, 0))))

/-! isochron/topo.To -/
def m_topo_To (p6864 : ApiTopo) (p6867 : Int) : R (Int × Int) :=
  bindR (m_topo_Check p6864) fun e6876 =>
  if (decide (e6876 ≠ 0)) then (.ok (0, e6876))
  else (sh ((decide (p6867 < 0)) || (decide ((w64 (2 * (p6864.Links.length : Int))) ≤ p6867))) fun (s6882 : Bool) =>
  (if s6882 then (.ok (0, 2))
  else (bindR (idx p6864.Links (w64 (Int.tdiv p6867 2))) fun e6886 =>
  bindR (m_topo_end_to ((TopoEnd.mk e6886 p6867))) fun e6889 =>
  .ok (e6889, 0))))

/-! (isochron/topo.end).per -/
def m_topo_end_per (p6933 : TopoEnd) : R Int :=
  .ok (p6933.Link.Per)

/-! isochron/topo.Per -/
def m_topo_Per (p6908 : ApiTopo) (p6911 : Int) : R (Int × Int) :=
  bindR (m_topo_Check p6908) fun e6920 =>
  if (decide (e6920 ≠ 0)) then (.ok (0, e6920))
  else (sh ((decide (p6911 < 0)) || (decide ((w64 (2 * (p6908.Links.length : Int))) ≤ p6911))) fun (s6926 : Bool) =>
  (if s6926 then (.ok (0, 2))
  else (bindR (idx p6908.Links (w64 (Int.tdiv p6911 2))) fun e6930 =>
  bindR (m_topo_end_per ((TopoEnd.mk e6930 p6911))) fun e6938 =>
  .ok (e6938, 0))))

/-! (isochron/topo.end).delay -/
def m_topo_end_delay (p6982 : TopoEnd) : R Int :=
  .ok (p6982.Link.Delay)

/-! isochron/topo.Delay -/
def m_topo_Delay (p6957 : ApiTopo) (p6960 : Int) : R (Int × Int) :=
  bindR (m_topo_Check p6957) fun e6969 =>
  if (decide (e6969 ≠ 0)) then (.ok (0, e6969))
  else (sh ((decide (p6960 < 0)) || (decide ((w64 (2 * (p6957.Links.length : Int))) ≤ p6960))) fun (s6975 : Bool) =>
  (if s6975 then (.ok (0, 2))
  else (bindR (idx p6957.Links (w64 (Int.tdiv p6960 2))) fun e6979 =>
  bindR (m_topo_end_delay ((TopoEnd.mk e6979 p6960))) fun e6987 =>
  .ok (e6987, 0))))

/-! isochron/topo.Ports -/
def m_topo_Ports_l1 (p7371 : ApiTopo) (p7374 : Int) (rec7655 : (Int × (List Int)) → R ((List Int) × Int)) (s7574 : Int × (List Int)) : R ((List Int) × Int) :=
  if (decide (s7574.1 < (p7371.Links.length : Int))) then (bindR (idx p7371.Links s7574.1) fun e7661 =>
  bindR (m_topo_end_from ((TopoEnd.mk e7661 (w64 (2 * s7574.1))))) fun e7679 =>
  sh (fun (s7689 : (List Int)) => (bindR (m_topo_end_from ((TopoEnd.mk e7661 (w64 ((w64 (2 * s7574.1)) + 1))))) fun e7706 =>
  sh (fun (s7716 : (List Int)) => (rec7655 ((w64 (s7574.1 + 1)), s7716))) fun j7720 =>
  (if (decide (e7706 = p7374)) then (bindR (must (okLen (s7689.length + ([(w64 ((w64 (2 * s7574.1)) + 1))]).length))) fun _ =>
  j7720 (s7689 ++ ([(w64 ((w64 (2 * s7574.1)) + 1))])))
  else (j7720 s7689)))) fun j7693 =>
  (if (decide (e7679 = p7374)) then (bindR (must (okLen (s7574.2.length + ([(w64 (2 * s7574.1))]).length))) fun _ =>
  j7693 (s7574.2 ++ ([(w64 (2 * s7574.1))])))
  else (j7693 s7574.2)))
  else (.ok (s7574.2, 0))
def m_topo_Ports (p7371 : ApiTopo) (p7374 : Int) : R ((List Int) × Int) :=
  bindR (m_topo_Check p7371) fun e7383 =>
  if (decide (e7383 ≠ 0)) then (.ok ([], e7383))
  else (bindR (m_topo_isNode p7371 p7374) fun e7388 =>
  if (!e7388) then (.ok ([], 2))
  else (loopM (m_topo_Ports_l1 p7371 p7374) LL (0, [])))

/-! isochron/topo.Find -/
def m_topo_Find_l1 (p7755 : ApiTopo) (p7758 : Int) (p7759 : Int) (rec8116 : Int → R (Int × Int)) (s8017 : Int) : R (Int × Int) :=
  if (decide (s8017 < (p7755.Links.length : Int))) then (bindR (idx p7755.Links s8017) fun e8122 =>
  bindR (m_topo_end_from ((TopoEnd.mk e8122 (w64 (2 * s8017))))) fun e8140 =>
  sh (fun (s8150 : Bool) => (if s8150 then (.ok ((w64 (2 * s8017)), 0))
  else (bindR (m_topo_end_from ((TopoEnd.mk e8122 (w64 ((w64 (2 * s8017)) + 1))))) fun e8173 =>
  sh (fun (s8183 : Bool) => (if s8183 then (.ok ((w64 ((w64 (2 * s8017)) + 1)), 0))
  else (rec8116 (w64 (s8017 + 1))))) fun j8197 =>
  (if (decide (e8173 = p7758)) then (bindR (m_topo_end_to ((TopoEnd.mk e8122 (w64 ((w64 (2 * s8017)) + 1))))) fun e8200 =>
  j8197 (decide (e8200 = p7759)))
  else (j8197 false))))) fun j8204 =>
  (if (decide (e8140 = p7758)) then (bindR (m_topo_end_to ((TopoEnd.mk e8122 (w64 (2 * s8017))))) fun e8207 =>
  j8204 (decide (e8207 = p7759)))
  else (j8204 false)))
  else (.ok (0, 4))
def m_topo_Find (p7755 : ApiTopo) (p7758 : Int) (p7759 : Int) : R (Int × Int) :=
  bindR (m_topo_Check p7755) fun e7780 =>
  if (decide (e7780 ≠ 0)) then (.ok (0, e7780))
  else (bindR (m_topo_isNode p7755 p7758) fun e7789 =>
  sh (fun (s7799 : Bool) => (if s7799 then (.ok (0, 2))
  else (loopM (m_topo_Find_l1 p7755 p7758 p7759) LL 0))) fun j8217 =>
  (if (!e7789) then (j8217 true)
  else (bindR (m_topo_isNode p7755 p7759) fun e8220 =>
  j8217 (!e8220))))

/-! isochron/topo.Reach -/
def m_topo_Reach_l1 (j8487 : Bool → R ((List Bool) × Int)) (p8391 : ApiTopo) (p8395 : (List Int)) (rec8535 : Int → R ((List Bool) × Int)) (s8520 : Int) : R ((List Bool) × Int) :=
  if (decide (s8520 < (p8395.length : Int))) then (bindR (idx p8395 s8520) fun e8541 =>
  sh ((decide (e8541 < 0)) || (decide ((p8391.Links.length : Int) ≤ e8541))) fun (s8545 : Bool) =>
  (if s8545 then (j8487 (decide (0 ≤ s8520)))
  else (rec8535 (w64 (s8520 + 1)))))
  else (j8487 false)
def m_topo_Reach (p8391 : ApiTopo) (p8394 : Int) (p8395 : (List Int)) : R ((List Bool) × Int) :=
  bindR (m_topo_Check p8391) fun e8401 =>
  if (decide (e8401 ≠ 0)) then (.ok ([], e8401))
  else (bindR (m_topo_isNode p8391 p8394) fun e8406 =>
  sh (fun (s8474 : Bool) => (if s8474 then (.ok ([], 2))
  else (bindR (m_topo_reach p8391 p8394 p8395) fun e8478 =>
  .ok (e8478, 0)))) fun j8487 =>
  (if (!e8406) then (j8487 true)
  else (loopM (m_topo_Reach_l1 j8487 p8391 p8395) LL 0)))

/-! slices.Equal[[]int,int] -/
def m_slices_Equal_int_int_l1 (p8615 : (List Int)) (p8617 : (List Int)) (rec8653 : Int → R Bool) (s8642 : Int) : R Bool :=
  if (decide (s8642 < (p8615.length : Int))) then (bindR (idx p8615 s8642) fun e8659 =>
  bindR (idx p8617 s8642) fun e8662 =>
  if (decide (e8659 ≠ e8662)) then (.ok false)
  else (rec8653 (w64 (s8642 + 1))))
  else (.ok true)
def m_slices_Equal_int_int (p8615 : (List Int)) (p8617 : (List Int)) : R Bool :=
  if (decide ((p8615.length : Int) ≠ (p8617.length : Int))) then (.ok false)
  else (loopM (m_slices_Equal_int_int_l1 p8615 p8617) LL 0)

/-! slices.Equal[[]bool,bool] -/
def m_slices_Equal_bool_bool_l1 (p8689 : (List Bool)) (p8691 : (List Bool)) (rec8727 : Int → R Bool) (s8716 : Int) : R Bool :=
  if (decide (s8716 < (p8689.length : Int))) then (bindR (idx p8689 s8716) fun e8733 =>
  bindR (idx p8691 s8716) fun e8736 =>
  if (!(e8733 == e8736)) then (.ok false)
  else (rec8727 (w64 (s8716 + 1))))
  else (.ok true)
def m_slices_Equal_bool_bool (p8689 : (List Bool)) (p8691 : (List Bool)) : R Bool :=
  if (decide ((p8689.length : Int) ≠ (p8691.length : Int))) then (.ok false)
  else (loopM (m_slices_Equal_bool_bool_l1 p8689 p8691) LL 0)

/-! isochron/isochronlaw16.wakes -/
def m_isochronlaw16_wakes : R Bool :=
  bindR (m_isochronlaw16_line) fun e39 =>
  bindR (m_topo_From e39 0) fun e6860 =>
  bindR (m_topo_To e39 3) fun e6904 =>
  bindR (m_topo_Per e39 5) fun e6953 =>
  bindR (m_topo_Delay e39 4) fun e7002 =>
  bindR (m_topo_Ports e39 1) fun e7746 =>
  bindR (m_topo_Find e39 2 1) fun e8224 =>
  bindR (m_topo_Reach e39 0 ([1])) fun e8558 =>
  bindR (m_topo_From e39 6) fun e8567 =>
  sh ((decide (e6860.2 = 0)) && (decide (e6904.2 = 0))) fun (s8572 : Bool) =>
  (sh (s8572 && (decide (e6953.2 = 0))) fun (s8576 : Bool) =>
  (sh (s8576 && (decide (e7002.2 = 0))) fun (s8580 : Bool) =>
  (sh (s8580 && (decide (e7746.2 = 0))) fun (s8584 : Bool) =>
  (sh (s8584 && (decide (e8224.2 = 0))) fun (s8588 : Bool) =>
  (sh (s8588 && (decide (e8558.2 = 0))) fun (s8592 : Bool) =>
  (sh (s8592 && (decide (e6860.1 = 0))) fun (s8596 : Bool) =>
  (sh (s8596 && (decide (e6904.1 = 1))) fun (s8600 : Bool) =>
  (sh (s8600 && (decide (e6953.1 = 80))) fun (s8604 : Bool) =>
  (sh (s8604 && (decide (e7002.1 = 7))) fun (s8608 : Bool) =>
  (sh (fun (s8678 : Bool) => (sh (s8678 && (decide (e8224.1 = 3))) fun (s8682 : Bool) =>
  (sh (fun (s8752 : Bool) => (sh (s8752 && (decide (e8567.2 = 2))) fun (s8756 : Bool) =>
  (sh (fun (s8765 : Bool) => (.ok s8765)) fun j8768 =>
  (if s8756 then (bindR (m_topo_Check ((ApiTopo.mk 0 [] []))) fun e8771 =>
  j8768 (decide (e8771 = 260)))
  else (j8768 false))))) fun j8778 =>
  (if s8682 then (bindR (m_slices_Equal_bool_bool (e8558.1) ([true, true, false, false])) fun e8791 =>
  j8778 e8791)
  else (j8778 false))))) fun j8798 =>
  (if s8608 then (bindR (m_slices_Equal_int_int (e7746.1) ([1, 2])) fun e8811 =>
  j8798 e8811)
  else (j8798 false))))))))))))

/-! isochron/isochronlaw16.few -/
def m_isochronlaw16_few (p8869 : ApiTopo) : R ApiTopo :=
  bindR (must (decide (0 ≤ (min (p8869.Station.length : Int) 20) ∧ (min (p8869.Station.length : Int) 20) ≤ (p8869.Station.length : Int)))) fun _ =>
  bindR (must (decide (0 ≤ (min (p8869.Links.length : Int) 30) ∧ (min (p8869.Links.length : Int) 30) ≤ (p8869.Links.length : Int)))) fun _ =>
  .ok ((ApiTopo.mk p8869.Nodes (p8869.Station.take ((min (p8869.Station.length : Int) 20)).toNat) (p8869.Links.take ((min (p8869.Links.length : Int) 30)).toNat)))

/-! isochron/isochronref16.node -/
def m_isochronref16_node (p8953 : ApiTopo) (p8956 : Int) : R Bool :=
  sh ((decide (0 ≤ p8956)) && (decide (p8956 < p8953.Nodes))) fun (s8962 : Bool) =>
  (.ok s8962)

/-! isochron/isochronref16.link -/
def m_isochronref16_link (p8941 : ApiTopo) (p8944 : ApiLink) : R Bool :=
  bindR (m_isochronref16_node p8941 (p8944.A)) fun e8968 =>
  sh (fun (s8978 : Bool) => (sh (s8978 || (decide (p8944.A = p8944.B))) fun (s8982 : Bool) =>
  (sh (fun (s8994 : Bool) => (if s8994 then (.ok false)
  else (sh ((decide (1 ≤ p8944.Per)) && (decide (p8944.Per ≤ 1000))) fun (s8999 : Bool) =>
  (sh (s8999 && (decide (0 ≤ p8944.Delay))) fun (s9003 : Bool) =>
  (sh (s9003 && (decide (p8944.Delay ≤ 10000))) fun (s9007 : Bool) =>
  (.ok s9007)))))) fun j9019 =>
  (if s8982 then (j9019 true)
  else (bindR (idx p8941.Station p8944.A) fun e9022 =>
  if e9022 then (bindR (idx p8941.Station p8944.B) fun e9026 =>
  j9019 e9026)
  else (j9019 false)))))) fun j9032 =>
  (if (!e8968) then (j9032 true)
  else (bindR (m_isochronref16_node p8941 (p8944.B)) fun e9035 =>
  j9032 (!e9035)))

/-! isochron/isochronref16.In -/
def m_isochronref16_In_l1 (p9144 : (List Int)) (p9146 : Int) (rec9171 : Int → R Bool) (s9163 : Int) : R Bool :=
  if (decide (s9163 < (p9144.length : Int))) then (bindR (idx p9144 s9163) fun e9177 =>
  if (decide (e9177 = p9146)) then (.ok true)
  else (rec9171 (w64 (s9163 + 1))))
  else (.ok false)
def m_isochronref16_In (p9144 : (List Int)) (p9146 : Int) : R Bool :=
  loopM (m_isochronref16_In_l1 p9144 p9146) LL 0

/-! isochron/isochronref16.Reach -/
def m_isochronref16_Reach_l1 (p10335 : ApiTopo) (p10339 : (List Int)) (rec11230 : ((List Bool) × Int) → R (List Bool)) (s10937 : (List Bool) × Int) (rec11451 : ((List Bool) × Int) → R (List Bool)) (s11379 : (List Bool) × Int) : R (List Bool) :=
  if (decide (s11379.2 < (p10335.Links.length : Int))) then (bindR (idx p10335.Links s11379.2) fun e11457 =>
  bindR (m_isochronref16_In p10339 (s11379.2)) fun e11466 =>
  sh (fun (s11479 : (List Bool) × Bool) => (sh (fun (s11496 : (List Bool)) => (rec11451 (s11496, (w64 (s11379.2 + 1))))) fun j11500 =>
  (if s11479.2 then (bindR (idx s11479.1 e11457.A) fun e11502 =>
  bindR (idx (s11479.1.set (e11457.A).toNat true) e11457.B) fun e11508 =>
  j11500 ((s11479.1.set (e11457.A).toNat true).set (e11457.B).toNat true))
  else (j11500 s11479.1)))) fun j11514 =>
  (if (!e11466) then (bindR (idx s11379.1 e11457.A) fun e11517 =>
  if e11517 then (j11514 (s11379.1, true))
  else (bindR (idx s11379.1 e11457.B) fun e11521 =>
  j11514 (s11379.1, e11521)))
  else (j11514 (s11379.1, false))))
  else (rec11230 (s11379.1, (w64 (s10937.2 + 1))))
def m_isochronref16_Reach_l2 (p10335 : ApiTopo) (p10339 : (List Int)) (rec11230 : ((List Bool) × Int) → R (List Bool)) (s10937 : (List Bool) × Int) : R (List Bool) :=
  if (decide (s10937.2 < p10335.Nodes)) then (loopM (m_isochronref16_Reach_l1 p10335 p10339 rec11230 s10937) LL (s10937.1, 0))
  else (.ok (s10937.1))
def m_isochronref16_Reach (p10335 : ApiTopo) (p10338 : Int) (p10339 : (List Int)) : R (List Bool) :=
  bindR (must (decide (0 ≤ p10335.Nodes ∧ p10335.Nodes ≤ 1000000000))) fun _ =>
  bindR (idx (List.replicate (p10335.Nodes).toNat false) p10338) fun e10347 =>
  loopM (m_isochronref16_Reach_l2 p10335 p10339) LL (((List.replicate (p10335.Nodes).toNat false).set (p10338).toNat true), 0)

/-! isochron/isochronref16.Joins -/
def m_isochronref16_Joins (p11717 : ApiLink) (p11718 : Int) (p11719 : Int) : R Bool :=
  sh ((decide (p11717.A = p11718)) && (decide (p11717.B = p11719))) fun (s11725 : Bool) =>
  (sh (s11725 || ((decide (p11717.A = p11719)) && (decide (p11717.B = p11718)))) fun (s11729 : Bool) =>
  (.ok s11729))

/-! isochron/isochronref16.Right -/
def m_isochronref16_Right_l1 (e12343 : ApiLink) (p8906 : ApiTopo) (rec12337 : ((List Int) × Int) → R Bool) (s12025 : (List Int) × Int) (rec12447 : Int → R Bool) (s12417 : Int) : R Bool :=
  if (decide (s12417 < s12025.2)) then (bindR (idx p8906.Links s12417) fun e12453 =>
  bindR (m_isochronref16_Joins e12453 (e12343.A) (e12343.B)) fun e12456 =>
  if e12456 then (.ok false)
  else (rec12447 (w64 (s12417 + 1))))
  else (bindR (idx s12025.1 e12343.A) fun e12461 =>
  bindR (idx s12025.1 e12343.A) fun e12464 =>
  bindR (idx (s12025.1.set (e12343.A).toNat (w64 (e12461 + 1))) e12343.B) fun e12470 =>
  bindR (idx (s12025.1.set (e12343.A).toNat (w64 (e12461 + 1))) e12343.B) fun e12473 =>
  rec12337 (((s12025.1.set (e12343.A).toNat (w64 (e12461 + 1))).set (e12343.B).toNat (w64 (e12470 + 1))), (w64 (s12025.2 + 1))))
def m_isochronref16_Right_l2 (p8906 : ApiTopo) (rec12609 : ((List Int) × (List Bool) × Int) → R Bool) (s12568 : (List Int) × (List Bool) × Int) : R Bool :=
  if (decide (s12568.2.2 < p8906.Nodes)) then (bindR (idx s12568.2.1 s12568.2.2) fun e12615 =>
  sh (fun (s12631 : (List Int) × Bool) => (if s12631.2 then (.ok false)
  else (rec12609 (s12631.1, s12568.2.1, (w64 (s12568.2.2 + 1)))))) fun j12636 =>
  (if (!e12615) then (j12636 (s12568.1, true))
  else (bindR (idx p8906.Station s12568.2.2) fun e12639 =>
  if e12639 then (bindR (idx s12568.1 s12568.2.2) fun e12643 =>
  if (decide (e12643 < 1)) then (j12636 (s12568.1, true))
  else (bindR (idx s12568.1 s12568.2.2) fun e12647 =>
  j12636 (s12568.1, (decide (2 < e12647)))))
  else (j12636 (s12568.1, false)))))
  else (.ok true)
def m_isochronref16_Right_l3 (p8906 : ApiTopo) (rec12337 : ((List Int) × Int) → R Bool) (s12025 : (List Int) × Int) : R Bool :=
  if (decide (s12025.2 < (p8906.Links.length : Int))) then (bindR (idx p8906.Links s12025.2) fun e12343 =>
  bindR (m_isochronref16_link p8906 e12343) fun e12352 =>
  if (!e12352) then (.ok false)
  else (loopM (m_isochronref16_Right_l1 e12343 p8906 rec12337 s12025) LL 0))
  else (bindR (m_isochronref16_Reach p8906 0 ([])) fun e12479 =>
  loopM (m_isochronref16_Right_l2 p8906) LL (s12025.1, e12479, 0))
def m_isochronref16_Right (p8906 : ApiTopo) : R Bool :=
  sh ((decide (p8906.Nodes < 2)) || (decide (12 < p8906.Nodes))) fun (s8914 : Bool) =>
  (sh (s8914 || (decide ((p8906.Station.length : Int) ≠ p8906.Nodes))) fun (s8918 : Bool) =>
  (sh (s8918 || (decide (24 < (p8906.Links.length : Int)))) fun (s8922 : Bool) =>
  (if s8922 then (.ok false)
  else (bindR (must (decide (0 ≤ p8906.Nodes ∧ p8906.Nodes ≤ 1000000000))) fun _ =>
  loopM (m_isochronref16_Right_l3 p8906) LL ((List.replicate (p8906.Nodes).toNat 0), 0)))))

/-! isochron/isochronref16.Same -/
def m_isochronref16_Same_l1 (p12683 : ApiTopo) (p12686 : ApiTopo) (rec12923 : Int → R Bool) (s12912 : Int) : R Bool :=
  if (decide (s12912 < (p12683.Links.length : Int))) then (bindR (idx p12683.Links s12912) fun e12929 =>
  bindR (idx p12686.Links s12912) fun e12932 =>
  if (!((e12929.A == e12932.A) && ((e12929.B == e12932.B) && ((e12929.Per == e12932.Per) && ((e12929.Delay == e12932.Delay) && true))))) then (.ok false)
  else (rec12923 (w64 (s12912 + 1))))
  else (.ok true)
def m_isochronref16_Same_l2 (p12683 : ApiTopo) (p12686 : ApiTopo) (rec12877 : Int → R Bool) (s12820 : Int) : R Bool :=
  if (decide (s12820 < (p12683.Station.length : Int))) then (bindR (idx p12683.Station s12820) fun e12883 =>
  bindR (idx p12686.Station s12820) fun e12886 =>
  if (!(e12883 == e12886)) then (.ok false)
  else (rec12877 (w64 (s12820 + 1))))
  else (loopM (m_isochronref16_Same_l1 p12683 p12686) LL 0)
def m_isochronref16_Same (p12683 : ApiTopo) (p12686 : ApiTopo) : R Bool :=
  sh ((decide (p12683.Nodes ≠ p12686.Nodes)) || (decide ((p12683.Station.length : Int) ≠ (p12686.Station.length : Int)))) fun (s12698 : Bool) =>
  (sh (s12698 || (decide ((p12683.Links.length : Int) ≠ (p12686.Links.length : Int)))) fun (s12702 : Bool) =>
  (if s12702 then (.ok false)
  else (loopM (m_isochronref16_Same_l2 p12683 p12686) LL 0)))

/-! slices.Equal[[]isochron/api.Link,isochron/api.Link] -/
def m_slices_Equal_api_Link_api_Link_l1 (p12991 : (List ApiLink)) (p12993 : (List ApiLink)) (rec13029 : Int → R Bool) (s13018 : Int) : R Bool :=
  if (decide (s13018 < (p12991.length : Int))) then (bindR (idx p12991 s13018) fun e13035 =>
  bindR (idx p12993 s13018) fun e13038 =>
  if (!((e13035.A == e13038.A) && ((e13035.B == e13038.B) && ((e13035.Per == e13038.Per) && ((e13035.Delay == e13038.Delay) && true))))) then (.ok false)
  else (rec13029 (w64 (s13018 + 1))))
  else (.ok true)
def m_slices_Equal_api_Link_api_Link (p12991 : (List ApiLink)) (p12993 : (List ApiLink)) : R Bool :=
  if (decide ((p12991.length : Int) ≠ (p12993.length : Int))) then (.ok false)
  else (loopM (m_slices_Equal_api_Link_api_Link_l1 p12991 p12993) LL 0)

/-! isochron/topo.Same -/
def m_topo_Same (p12949 : ApiTopo) (p12952 : ApiTopo) : R Bool :=
  bindR (m_topo_Check p12949) fun e12963 =>
  sh (fun (s12973 : Bool) => (sh (s12973 && (decide (p12949.Nodes = p12952.Nodes))) fun (s12977 : Bool) =>
  (sh (fun (s12986 : Bool) => (sh (fun (s13046 : Bool) => (.ok s13046)) fun j13049 =>
  (if s12986 then (bindR (m_slices_Equal_api_Link_api_Link (p12949.Links) (p12952.Links)) fun e13052 =>
  j13049 e13052)
  else (j13049 false)))) fun j13056 =>
  (if s12977 then (bindR (m_slices_Equal_bool_bool (p12949.Station) (p12952.Station)) fun e13059 =>
  j13056 e13059)
  else (j13056 false))))) fun j13066 =>
  (if (decide (e12963 = 0)) then (bindR (m_topo_Check p12952) fun e13069 =>
  j13066 (decide (e13069 = 0)))
  else (j13066 false))

/-! isochron/isochronlaw16.TopoChecks -/
def m_isochronlaw16_TopoChecks (p1 : ApiTopo) (p4 : ApiTopo) : R Bool :=
  bindR (m_isochronlaw16_wakes) fun e8845 =>
  if (!e8845) then (.ok false)
  else (bindR (m_isochronlaw16_few p1) fun e8890 =>
  bindR (m_isochronlaw16_few p4) fun e8896 =>
  bindR (m_isochronref16_Right e8890) fun e12659 =>
  bindR (m_topo_Check e8890) fun e12663 =>
  sh ((!(e12659 == (decide (e12663 = 0)))) || ((!e12659) && (decide (e12663 ≠ 260)))) fun (s12668 : Bool) =>
  (if s12668 then (.ok false)
  else (sh (fun (s12678 : Bool) => (sh (fun (s12946 : Bool) => (bindR (m_topo_Same e8890 e8896) fun e13073 =>
  sh (fun (s13083 : Bool) => (sh (fun (s13092 : Bool) => (.ok s13092)) fun j13095 =>
  (if s13083 then (bindR (m_topo_Same e8890 e8890) fun e13098 =>
  j13095 (e13098 == e12659))
  else (j13095 false)))) fun j13102 =>
  (if (e13073 == s12946) then (bindR (m_topo_Same e8896 e8890) fun e13105 =>
  j13102 (e13105 == s12946))
  else (j13102 false)))) fun j13109 =>
  (if s12678 then (bindR (m_isochronref16_Same e8890 e8896) fun e13112 =>
  j13109 e13112)
  else (j13109 false)))) fun j13116 =>
  (if e12659 then (bindR (m_isochronref16_Right e8896) fun e13119 =>
  j13116 e13119)
  else (j13116 false)))))
end Go.AM
